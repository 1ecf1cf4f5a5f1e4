/- Texts of this claim, joined: Jr11, Jp17, WkL, Wks. -/
import Derived.Test.YtfclfaidmipjpaaGreatDoorCo30
namespace Go.Proofs.YtfclfaidmipjpaaGreatDoor
set_option maxRecDepth 100000
set_option maxHeartbeats 20000000
open Go.Lib (hid)
open Go.RowKit
theorem below_set8 {B : Nat} {a w : World} {g : Nat} (h : Below B a w) (hg : B ≤ g) (x0 x1 x2 x3 x4 x5 x6 x7 : Value) : Below B a (set8 w g x0 x1 x2 x3 x4 x5 x6 x7) :=
 (((((((h.setCell (p := ⟨g, 0, none⟩) hg _).setCell (p := ⟨g, 1, none⟩) hg _).setCell (p := ⟨g, 2, none⟩) hg _).setCell (p := ⟨g, 3, none⟩) hg _).setCell (p := ⟨g, 4, none⟩) hg _).setCell (p := ⟨g, 5, none⟩) hg _).setCell (p := ⟨g, 6, none⟩) hg _).setCell (p := ⟨g, 7, none⟩) hg _
def ParTo (w : World) (l : List UInt8) (e : Ending) (w' : World) : Prop :=
 ∃ r : JR, e = .returned (.tuple #[jval r, .int .i64 (parseJ [] l).2]) ∧ r.1 = (parseJ [] l).1 ∧ JV w' (fun k => w.heap.size ≤ k) r ∧ Below w.heap.size w w'
theorem ParTo.zero {w W : World} {l : List UInt8} {c : Int} (h : parseJ [] l = (J.zero, c)) (hb : Below w.heap.size w W) :
  ParTo w l (.returned (.tuple #[.agg #[.int .i64 0, .bool false, .bool false, .string ⟨#[]⟩, .int .i64 0, .string ⟨#[]⟩, .slice none 0 0, .slice none 0 0], .int .i64 c])) W :=
 ⟨(J.zero, .slice none 0 0, .slice none 0 0), by rw [h]; rfl, by rw [h], JV.leaf W _ 0 false Dec.zero [], hb⟩
open Go.RowKit
theorem parseJ_some {l : List UInt8} (h1 : ¬ 1048576 < l.length) (h2 : Lib.validD l = true) : parseJ [] l = match valS [0] (3 * l.length + 3) 0 l Fl.none with
  | none => (J.zero, 180)
  | some (v, r, f) => if skipS r ≠ [] then (J.zero, 180) else if f.deep then (J.zero, 182) else if f.alone then (J.zero, 183) else if f.twice then (J.zero, 184) else if f.great then (J.zero, 4) else (v, 0) := by
 rw [parseJ_z [] [0] l]
 unfold parseJ
 rw [if_neg h1, if_neg (by rw [h2]; decide)]
 rfl
structure PpI (w wr : World) (g2 : Nat) : Prop where
 be : Below w.heap.size w wr
 res : RowAt wr g2 jz
 lo : w.heap.size ≤ g2
theorem PpI.below {w wr w' : World} {g2 : Nat} (h : PpI w wr g2) (hb : Below wr.heap.size wr w') : PpI w w' g2 := ⟨h.be.trans (hb.mono h.be.size), h.res.below hb, h.lo⟩
theorem PpI.apart {S : Nat → Prop} {w wr w' : World} {g2 : Nat} (h : PpI w wr g2) (ha : Apart S wr w') (hS : ∀ k, S k → g2 < k) : PpI w w' g2 :=
 ⟨h.be.trans (ha.below h.be.size (fun i hi e => by have := hS i e; have := h.lo; omega)), h.res.apart ha (fun e => by have := hS _ e; omega), h.lo⟩
theorem gram_cases (l : List UInt8) {dp : Nat} {ok : Bool} (hg : gramG .value [] 0 l = (dp, ok)) : (ok = false ∧ ∀ P : J × Int, (match valS [0] (3 * l.length + 3) 0 l Fl.none with
  | none => (J.zero, 180)
  | some (v, r, f) => if skipS r ≠ [] then (J.zero, 180) else if f.deep then (J.zero, 182) else if f.alone then (J.zero, 183) else if f.twice then (J.zero, 184) else if f.great then (J.zero, 4) else (v, 0)) = P → P = (J.zero, 180)) ∨
  (ok = true ∧ ∃ v r f, valS [0] (3 * l.length + 3) 0 l Fl.none = some (v, r, f) ∧ skipS r = [] ∧ f.deep = decide (64 < dp)) := by
 obtain ⟨h1, h2⟩ := gram_whole [0] l
 rw [hg] at h1 h2
 cases hv : valS [0] (3 * l.length + 3) 0 l Fl.none with
 | none =>
  refine .inl ⟨h1 hv, fun P hP => ?_⟩
  rw [← hP]
 | some x =>
  obtain ⟨v, r, f⟩ := x
  obtain ⟨h3, h4⟩ := h2 v r f hv
  simp only [Prod.mk.injEq] at h3
  cases hr : skipS r with
  | nil =>
   refine .inr ⟨by rw [h3.2, hr]; rfl, v, r, f, rfl, hr, h4⟩
  | cons c t =>
   refine .inl ⟨by rw [h3.2, hr]; rfl, fun P hP => ?_⟩
   rw [← hP]
   simp [hr]
theorem gram_deep {dp : Nat} {b : Bool} (h : b = decide (64 < dp)) : b = true ↔ 64 < dp := by rw [h, decide_eq_true_iff]
theorem parseP_calls (w : World) (v : Value) (l : List UInt8) (hb : BytS w v l) (hT : Lib.Utf8Tabs 0 1 w) : Calls Tryz.prog 13 #[v] w (ParTo w l) := by
 have hb0 : Below w.heap.size w (w.alloc (Obj.cells #[Value.int IntKind.i64 0, Value.bool false, Value.bool false, Value.string { data := #[] }, Value.int IntKind.i64 0, Value.string { data := #[] }, Value.slice none 0 0, Value.slice none 0 0] 30)) := (Below.refl _ _).alloc (Nat.le_refl _) _
 have HI0 : Hid (PpI w (w.alloc (Obj.cells #[Value.int IntKind.i64 0, Value.bool false, Value.bool false, Value.string { data := #[] }, Value.int IntKind.i64 0, Value.string { data := #[] }, Value.slice none 0 0, Value.slice none 0 0] 30)) w.heap.size) := hid ⟨hb0, RowAt.new w jz.toArray 30, Nat.le_refl _⟩
 have HB1 := hid (hb.below hb0)
 have htl := tabs_lt hT
 have HT1 := hid (tabs_below hT hb0 htl.1 htl.2)
 obtain ⟨p0, cap, rfl, hcap, hml, hp0⟩ := hb.open
 have HML : Hid (l.length ≤ 9223372036854775807) := hid (by unfold maxLen at hml; omega)
 clear hb0 hb hcap hml hp0 hT htl
 go_enter Tryz.func13, Tryz.ntmps13
 go_upto_region 1 with fail
 have HG2 : Hid (∃ g, w.heap.size = g) := hid ⟨_, rfl⟩
 obtain ⟨g2, hg2⟩ := HG2.out
 rw [hg2] at HI0 ⊢
 clear HG2 hg2
 generalize (w.alloc (Obj.cells #[Value.int IntKind.i64 0, Value.bool false, Value.bool false, Value.string { data := #[] }, Value.int IntKind.i64 0, Value.string { data := #[] }, Value.slice none 0 0, Value.slice none 0 0] 30)) = w1 at *
 by_cases h1 : 1048576 < l.length
 ·
  have h1i : (1048576 : Int) < (l.length : Int) := by omega
  go_wp2_with (first | with_reducible refine stop_ret ?_ | refine wpList_store8 rfl _ _ rfl rfl HI0.out.res rfl _ _ _ _ _ _ _ _ rfl rfl rfl ?_)
  refine hid ?_
  exact bodyPost_ret8t rfl rfl rfl rfl (set8_row HI0.out.res rfl (.int .i64 0) (.bool false) (.bool false) (.string ⟨#[]⟩) (.int .i64 0) (.string ⟨#[]⟩) (.slice none 0 0) (.slice none 0 0)) (ParTo.zero (by unfold parseJ; rw [if_pos h1]) (below_set8 HI0.out.be HI0.out.lo (.int .i64 0) (.bool false) (.bool false) (.string ⟨#[]⟩) (.int .i64 0) (.string ⟨#[]⟩) (.slice none 0 0) (.slice none 0 0)))
 have h1i : ¬ (1048576 : Int) < (l.length : Int) := by omega
 go_wp2_with fail
 refine (validP_calls w1 HB1.out HT1.out).mono ?_
 rintro e w2 ⟨rfl, hb2⟩
 have HI2 := hid (HI0.out.below hb2)
 have HB2 := hid (HB1.out.below hb2)
 clear hb2 HI0 HB1 HT1
 cases hv : Lib.validD l with
 | false =>
  have HZ : Hid (parseJ [] l = (J.zero, 181)) := hid (by unfold parseJ; rw [if_neg h1, if_pos hv])
  clear hv h1
  go_wp2_with (first | with_reducible refine stop_ret ?_ | refine wpList_store8 rfl _ _ rfl rfl HI2.out.res rfl _ _ _ _ _ _ _ _ rfl rfl rfl ?_)
  refine hid ?_
  exact bodyPost_ret8t rfl rfl rfl rfl (set8_row HI2.out.res rfl (.int .i64 0) (.bool false) (.bool false) (.string ⟨#[]⟩) (.int .i64 0) (.string ⟨#[]⟩) (.slice none 0 0) (.slice none 0 0)) (ParTo.zero HZ.out (below_set8 HI2.out.be HI2.out.lo (.int .i64 0) (.bool false) (.bool false) (.string ⟨#[]⟩) (.int .i64 0) (.string ⟨#[]⟩) (.slice none 0 0) (.slice none 0 0)))
 | true =>
  have HPJ := hid (parseJ_some h1 hv)
  have hl8 : l.length ≤ 100000000 := by omega
  have hcv := HB2.out.string
  clear hv h1 h1i
  go_wp2_with fail
  refine (grammarP_calls w2 l hl8).mono ?_
  obtain ⟨⟨dp, ok⟩, hgr⟩ : ∃ x, gramG .value [] 0 l = x := ⟨_, rfl⟩
  have HGC := hid (gram_cases l hgr)
  unfold GraP
  rw [hgr]
  rintro e w3 ⟨rfl, hb3⟩
  have HI3 := hid (HI2.out.below hb3)
  clear hb3 HI2 HB2 hcv hgr
  cases ok with
  | false =>
   have HZ : Hid (parseJ [] l = (J.zero, 180)) := by
    refine hid ?_
    rcases HGC.out with ⟨_, h9⟩ | ⟨h9, _⟩
    ·exact h9 _ HPJ.out.symm
    cases h9
   clear HGC HPJ
   go_wp2_with (first | with_reducible refine stop_ret ?_ | refine wpList_store8 rfl _ _ rfl rfl HI3.out.res rfl _ _ _ _ _ _ _ _ rfl rfl rfl ?_)
   refine hid ?_
   exact bodyPost_ret8t rfl rfl rfl rfl (set8_row HI3.out.res rfl (.int .i64 0) (.bool false) (.bool false) (.string ⟨#[]⟩) (.int .i64 0) (.string ⟨#[]⟩) (.slice none 0 0) (.slice none 0 0)) (ParTo.zero HZ.out (below_set8 HI3.out.be HI3.out.lo (.int .i64 0) (.bool false) (.bool false) (.string ⟨#[]⟩) (.int .i64 0) (.string ⟨#[]⟩) (.slice none 0 0) (.slice none 0 0)))
  | true =>
   obtain ⟨vv, r, f, hval, hskr, hdp⟩ : ∃ v r f, valS [0] (3 * l.length + 3) 0 l Fl.none = some (v, r, f) ∧ skipS r = [] ∧ f.deep = decide (64 < dp) := by
    rcases HGC.out with ⟨h9, _⟩ | ⟨_, h9⟩
    ·cases h9
    exact h9
   have HZ : Hid (parseJ [] l = if f.deep then (J.zero, 182) else if f.alone then (J.zero, 183) else if f.twice then (J.zero, 184) else if f.great then (J.zero, 4) else (vv, 0)) := hid (by rw [HPJ.out, hval]; simp only; rw [if_neg (by rw [hskr]; simp)])
   have HVAL := hid hval
   have HDP := hid (gram_deep hdp)
   clear hval hskr hdp HGC HPJ
   by_cases h64 : 64 < dp
   ·
    have h64i : (64 : Int) < (dp : Int) := by omega
    have HZ2 : Hid (parseJ [] l = (J.zero, 182)) := hid (by rw [HZ.out, if_pos (HDP.out.2 h64)])
    go_wp2_with (first | with_reducible refine stop_ret ?_ | refine wpList_store8 rfl _ _ rfl rfl HI3.out.res rfl _ _ _ _ _ _ _ _ rfl rfl rfl ?_)
    refine hid ?_
    exact bodyPost_ret8t rfl rfl rfl rfl (set8_row HI3.out.res rfl (.int .i64 0) (.bool false) (.bool false) (.string ⟨#[]⟩) (.int .i64 0) (.string ⟨#[]⟩) (.slice none 0 0) (.slice none 0 0)) (ParTo.zero HZ2.out (below_set8 HI3.out.be HI3.out.lo (.int .i64 0) (.bool false) (.bool false) (.string ⟨#[]⟩) (.int .i64 0) (.string ⟨#[]⟩) (.slice none 0 0) (.slice none 0 0)))
   have h64i : ¬ (64 : Int) < (dp : Int) := by omega
   have HZ2 : Hid (parseJ [] l = if f.alone then (J.zero, 183) else if f.twice then (J.zero, 184) else if f.great then (J.zero, 4) else (vv, 0)) := hid (by rw [HZ.out, if_neg (fun h9 => h64 (HDP.out.1 h9))])
   clear HZ HDP h64
   go_upto_region 13 with fail
   have hr7 := RowAt.new w3 jz.toArray 30
   have hb4 : Below w3.heap.size w3 (w3.alloc (Obj.cells #[Value.int IntKind.i64 0, Value.bool false, Value.bool false, Value.string { data := #[] }, Value.int IntKind.i64 0, Value.string { data := #[] }, Value.slice none 0 0, Value.slice none 0 0] 30)) := (Below.refl _ _).alloc (Nat.le_refl _) _
   have HI4 := hid (HI3.out.below hb4)
   have HLG : Hid (g2 < w3.heap.size) := hid HI3.out.res.lt
   have hsz4 : (w3.alloc (Obj.cells #[Value.int IntKind.i64 0, Value.bool false, Value.bool false, Value.string { data := #[] }, Value.int IntKind.i64 0, Value.string { data := #[] }, Value.slice none 0 0, Value.slice none 0 0] 30)).heap.size = w3.heap.size + 1 := by simp
   obtain ⟨g7, hg7⟩ : ∃ g, w3.heap.size = g := ⟨_, rfl⟩
   rw [hg7] at HLG hr7 hsz4 ⊢
   have HR7 : Hid (RowAt (w3.alloc (Obj.cells #[Value.int IntKind.i64 0, Value.bool false, Value.bool false, Value.string { data := #[] }, Value.int IntKind.i64 0, Value.string { data := #[] }, Value.slice none 0 0, Value.slice none 0 0] 30)) g7 jz) := hid hr7
   clear hr7 hb4 HI3
   generalize (w3.alloc (Obj.cells #[Value.int IntKind.i64 0, Value.bool false, Value.bool false, Value.string { data := #[] }, Value.int IntKind.i64 0, Value.string { data := #[] }, Value.slice none 0 0, Value.slice none 0 0] 30)) = w4 at *
   clear hg7
   have hb5 : Below w4.heap.size w4 (w4.alloc (Obj.cells #[Value.string { data := l.toArray }, Value.bool false, Value.bool false, Value.bool false] 71)) := (Below.refl _ _).alloc (Nat.le_refl _) _
   have HI5 := hid (HI4.out.below hb5)
   have HR75 := hid (HR7.out.below hb5)
   have HPD : Hid (PdAt (w4.alloc (Obj.cells #[Value.string { data := l.toArray }, Value.bool false, Value.bool false, Value.bool false] 71)) w4.heap.size l Fl.none.alone Fl.none.twice Fl.none.great) := hid (RowAt.new w4 #[Value.string { data := l.toArray }, Value.bool false, Value.bool false, Value.bool false] 71)
   rw [hsz4] at HPD
   have hsz5 : (w4.alloc (Obj.cells #[Value.string { data := l.toArray }, Value.bool false, Value.bool false, Value.bool false] 71)).heap.size = g7 + 2 := by rw [World.size_alloc, hsz4]
   generalize (w4.alloc (Obj.cells #[Value.string { data := l.toArray }, Value.bool false, Value.bool false, Value.bool false] 71)) = w5 at *
   clear hb5 HI4 HR7
   have hp6 := RowAt.new w5 #[Value.pointer (some ⟨g7 + 1, 0, none⟩)] 69
   have hb6 : Below w5.heap.size w5 (w5.alloc (Obj.cells #[Value.pointer (some ⟨g7 + 1, 0, none⟩)] 69)) := (Below.refl _ _).alloc (Nat.le_refl _) _
   have HI6 := hid (HI5.out.below hb6)
   have HR76 := hid (HR75.out.below hb6)
   have HPD6 := hid (HPD.out.below hb6)
   rw [hsz5] at hp6
   have HP6 := hid hp6
   have hsz6 : (w5.alloc (Obj.cells #[Value.pointer (some ⟨g7 + 1, 0, none⟩)] 69)).heap.size = g7 + 3 := by rw [World.size_alloc, hsz5]
   have HS6 := hid hsz6
   generalize (w5.alloc (Obj.cells #[Value.pointer (some ⟨g7 + 1, 0, none⟩)] 69)) = w6 at *
   clear hb6 hp6 HI5 HR75 HPD hsz4 hsz5 hsz6 w4 w5
   have hmf : ∀ (fn : Fn) (first cap : Array Value) (w : World), (Instr.makeFunc fn first cap).run Tryz.prog w = .ok (.func fn first cap) w := fun _ _ _ _ => rfl
   go_wp2_with fail
   have hbe : Below w6.heap.size w6 (w6.alloc (Obj.cells #[Value.int IntKind.i64 0] 31)) := (Below.refl _ _).alloc (Nat.le_refl _) _
   have hre := RowAt.new w6 #[Value.int IntKind.i64 0] 31
   refine (face_calls w6 #[.pointer (some ⟨g7 + 2, 0, none⟩), .pointer (some ⟨g7, 0, none⟩)] (fun w' => CloTo (w6.alloc (Obj.cells #[Value.int IntKind.i64 0] 31)) (g7 + 1) g7 vv r f w') (clo_calls _ (HPD6.out.below hbe) ((HP6.out.below hbe).cell 0 _ rfl) (HR76.out.below hbe) (by omega) hl8 HVAL.out) ?_).mono ?_
   ·
    intro w' hc
    have h9 := hre.apart hc.1 (fun e => by have := HS6.out; omega)
    exact ⟨h9.cell 0 _ rfl, h9.free 0⟩
   rintro e w9 ⟨rfl, w8, ⟨ha8, hpd8, lv, nv, hv8, hj8⟩, rfl⟩
   have hse : (w6.alloc (Obj.cells #[Value.int IntKind.i64 0] 31)).heap.size = g7 + 4 := by rw [World.size_alloc, HS6.out]
   rw [HS6.out]
   have hrp := (HP6.out.below hbe).apart ha8 (by omega)
   have HI8 := hid ((HI6.out.below hbe).apart ha8 (fun k hk => by have := HLG.out; rcases hk with hk | hk <;> omega))
   rw [hse] at hj8
   have hs9 : Apart (fun k => k = g7 + 3) w8 (w8.setCell ⟨g7 + 3, 0, none⟩ (.int .i64 0)) := Apart.set (S := fun k => k = g7 + 3) w8 rfl _
   have HI9 := hid (HI8.out.apart hs9 (fun k hk => by have := HLG.out; omega))
   have HRP := hid (hrp.apart hs9 (by omega))
   have HPD9 := hid (hpd8.apart hs9 (by omega))
   have HV9 := hid (hv8.apart hs9 (by omega))
   have HJ9 := hid (hj8.apart hs9 (fun k hk _ e => by omega))
   generalize w8.setCell ⟨g7 + 3, 0, none⟩ (.int .i64 0) = w9 at *
   clear hbe hre ha8 hpd8 hv8 hj8 hse hrp HI8 hs9 HI6 HR76 HPD6 HP6 HS6
   obtain ⟨kd, bb, ⟨ng, dg, ex⟩, tx, l2, ns2⟩ := vv
   obtain ⟨p1, c1, p2, c2e, e1, e2⟩ := HJ9.out.slices
   simp only at e1 e2
   subst e1 e2
   have HV10 : Hid (RowAt w9 g7 [.int .i64 kd, .bool bb, .bool ng, .string ⟨dg.toArray⟩, .int .i64 ex, .string ⟨tx.toArray⟩, (.slice p1 (J.mk kd bb ⟨ng, dg, ex⟩ tx l2 ns2).l.length c1), (.slice p2 (J.mk kd bb ⟨ng, dg, ex⟩ tx l2 ns2).ns.length c2e)]) := HV9
   clear HV9
   have c69 := HRP.out.cell 0 _ rfl
   obtain ⟨dpf, al, tw, gr⟩ := f
   go_wp2_with fail
   refine (worst_calls w9 HPD9.out).mono ?_
   rintro e w10 ⟨rfl, rfl⟩
   obtain ⟨cw, hcw⟩ : ∃ cw, worstS al tw gr = cw := ⟨_, rfl⟩
   have HCW := hid hcw
   rw [show worstS ({ deep := dpf, alone := al, twice := tw, great := gr } : Fl).alone ({ deep := dpf, alone := al, twice := tw, great := gr } : Fl).twice ({ deep := dpf, alone := al, twice := tw, great := gr } : Fl).great = cw from hcw]
   clear hcw
   by_cases hc0 : cw = 0
   ·
    subst hc0
    have HFIN : Hid (parseJ [] l = (.mk kd bb ⟨ng, dg, ex⟩ tx l2 ns2, 0)) := by
     refine hid ?_
     have h9 := HCW.out
     unfold worstS at h9
     rw [HZ2.out]
     cases al <;> cases tw <;> cases gr <;> first | rfl | (simp at h9)
    clear HCW HZ2
    go_wp2_with (first | with_reducible refine stop_ret ?_ | refine wpList_load8 rfl _ rfl HV10.out rfl ?_ | refine wpList_store8 rfl _ _ rfl rfl HI9.out.res rfl _ _ _ _ _ _ _ _ rfl rfl rfl ?_)
    refine hid ?_
    have hs8 := set8_apart w9 g2 (.int .i64 kd) (.bool bb) (.bool ng) (.string ⟨dg.toArray⟩) (.int .i64 ex) (.string ⟨tx.toArray⟩) (.slice p1 (J.mk kd bb ⟨ng, dg, ex⟩ tx l2 ns2).l.length c1) (.slice p2 (J.mk kd bb ⟨ng, dg, ex⟩ tx l2 ns2).ns.length c2e)
    refine bodyPost_ret8t rfl rfl rfl rfl (set8_row HI9.out.res rfl (.int .i64 kd) (.bool bb) (.bool ng) (.string ⟨dg.toArray⟩) (.int .i64 ex) (.string ⟨tx.toArray⟩) (.slice p1 (J.mk kd bb ⟨ng, dg, ex⟩ tx l2 ns2).l.length c1) (.slice p2 (J.mk kd bb ⟨ng, dg, ex⟩ tx l2 ns2).ns.length c2e)) ?_
    exact ⟨(.mk kd bb ⟨ng, dg, ex⟩ tx l2 ns2, _, _), by rw [HFIN.out]; rfl, by rw [HFIN.out], (HJ9.out.apart hs8 (fun k hk _ e => by have := HLG.out; omega)).mono (fun k _ hk => by have := HLG.out; have := HI9.out.lo; omega), below_set8 HI9.out.be HI9.out.lo (.int .i64 kd) (.bool bb) (.bool ng) (.string ⟨dg.toArray⟩) (.int .i64 ex) (.string ⟨tx.toArray⟩) (.slice p1 (J.mk kd bb ⟨ng, dg, ex⟩ tx l2 ns2).l.length c1) (.slice p2 (J.mk kd bb ⟨ng, dg, ex⟩ tx l2 ns2).ns.length c2e)⟩
   have e1 : (cw == 0) = false := by rw [beq_eq_false_iff_ne]; exact hc0
   have e2 : (cw != 0) = true := by rw [bne_iff_ne]; exact hc0
   have HFIN : Hid (parseJ [] l = (J.zero, cw)) := by
    refine hid ?_
    have h9 := HCW.out
    unfold worstS at h9
    rw [HZ2.out]
    cases al <;> cases tw <;> cases gr <;> first | (exfalso; exact hc0 h9.symm) | (rw [← h9]; rfl)
   clear HZ2 hc0
   go_wp2_with fail
   refine (worst_calls w9 HPD9.out).mono ?_
   rintro e w11 ⟨rfl, rfl⟩
   rw [show worstS ({ deep := dpf, alone := al, twice := tw, great := gr } : Fl).alone ({ deep := dpf, alone := al, twice := tw, great := gr } : Fl).twice ({ deep := dpf, alone := al, twice := tw, great := gr } : Fl).great = cw from HCW.out]
   go_wp2_with (first | with_reducible refine stop_ret ?_ | refine wpList_store8 rfl _ _ rfl rfl HI9.out.res rfl _ _ _ _ _ _ _ _ rfl rfl rfl ?_)
   refine hid ?_
   exact bodyPost_ret8t rfl rfl rfl rfl (set8_row HI9.out.res rfl (.int .i64 0) (.bool false) (.bool false) (.string ⟨#[]⟩) (.int .i64 0) (.string ⟨#[]⟩) (.slice none 0 0) (.slice none 0 0)) (ParTo.zero HFIN.out (below_set8 HI9.out.be HI9.out.lo (.int .i64 0) (.bool false) (.bool false) (.string ⟨#[]⟩) (.int .i64 0) (.string ⟨#[]⟩) (.slice none 0 0) (.slice none 0 0)))
open Go.RowKit
def wb1 : List UInt8 := [32, 123, 34, 98, 34, 32, 58, 32, 91, 49, 46, 53, 48, 44, 32, 110, 117, 108, 108, 93, 44, 32, 34, 97, 34, 58, 34, 92, 117, 48, 48, 101, 57, 34, 125, 32]
def wb2 : List UInt8 := [91, 49, 44, 93]
def jnum : J := .mk 2 false ⟨false, [49, 53], -1⟩ [] [] []
def jlist : J := .mk 4 false Dec.zero [] [jnum, .mk 0 false Dec.zero [] [] []] []
def jtext : J := .mk 3 false Dec.zero [195, 169] [] []
def jv1 : J := .mk 5 false Dec.zero [] [jlist, jtext] [[98], [97]]
def jv2 : J := .mk 5 false Dec.zero [] [jtext, jlist] [[97], [98]]
def pr1 : List UInt8 := [123, 34, 97, 34, 58, 34, 195, 169, 34, 44, 34, 98, 34, 58, 91, 49, 46, 53, 44, 110, 117, 108, 108, 93, 125]
theorem par_wb1 : parseJ [] wb1 = (jv1, 0) := by kernel_rfl
theorem par_wb2 : parseJ [] wb2 = (J.zero, 180) := by kernel_rfl
theorem chk_jv1 : checkJ jv1 = 0 := by kernel_rfl
theorem srt_two : srtN [[98], [97]] = [[97], [98]] := by
 unfold srtN
 simp [List.mergeSort, List.MergeSort.Internal.splitInTwo, List.merge]
 decide
theorem srt_jv1 : sortJ jv1 = jv2 := by
 have h0 : srtN [] = [] := by unfold srtN; simp
 have h1 : sortJ jlist = jlist := by
  unfold jlist jnum
  simp only [sortJ, sortL, h0]
  rfl
 have h2 : sortJ jtext = jtext := by
  unfold jtext
  simp only [sortJ, sortL, h0]
  rfl
 unfold jv1
 simp only [sortJ, sortL, h1, h2, srt_two, ordL]
 rfl
theorem prn_jv2 : printJ jv2 = pr1 := by kernel_rfl
theorem ptr_jv1 : ptrJ jv1 [47, 98, 47, 48] = (jnum, 0) := by kernel_rfl
theorem sz_jv : szJ jv1 ≤ 20000000 ∧ szJ jv2 ≤ 20000000 := by decide
theorem srtV_jv1 : sortedV jv1 = jv2 := by rw [sortedV, if_pos chk_jv1, srt_jv1]
open Go.RowKit
structure EnvJ (w : World) : Prop where
 ml : ∃ m, w.cell? ⟨2, 0, none⟩ = some (.int .i64 m)
 errs : Errs w
 tab : Tab w
 utf : Lib.Utf8Tabs 0 1 w
theorem EnvJ.below {w w' : World} {B : Nat} (h : EnvJ w) (hb : Below B w w') (hB : w.heap.size ≤ B) : EnvJ w' := by
 have hb' := hb.mono hB
 obtain ⟨m, hm⟩ := h.ml
 have hl := h.errs.lt
 exact ⟨⟨m, (hb'.cell (p := ⟨2, 0, none⟩) (by show 2 < w.heap.size; omega)).trans hm⟩, h.errs.below hb' hl, h.tab.below hb', tabsB h.utf hb' (tabsLt h.utf).1 (tabsLt h.utf).2⟩
theorem cell_alloc9 (w : World) (c : Array Value) (t : TypeId) (fz : Nat × Nat) (i : Nat) : (w.alloc (.cells c t fz)).cell? ⟨w.heap.size, i, none⟩ = c[i]? := by
 have h : (w.alloc (.cells c t fz)).heap[w.heap.size]? = some (.cells c t fz) := heap_alloc9 _ _
 unfold World.cell?
 rw [h]
 rfl
theorem byts_litF (w : World) (l : List UInt8) (fz : Nat × Nat) (hl : l.length ≤ maxLen) : BytS (w.alloc (.cells (u8s l).toArray 5 fz)) (.slice (some ⟨w.heap.size, 0, none⟩) l.length l.length) l := by
 refine .inr ⟨w.heap.size, 0, l.length, rfl, Nat.le_refl _, hl, by simp, fun j hj => ?_⟩
 rw [cell_alloc9, Nat.zero_add]
 simpa using u8s_at l j hj
theorem all_nil (ga : Nat) (w : World) : (binOp .neq 47 (.func (.func 60) #[] #[.pointer (some ⟨ga, 0, none⟩)]) .nilFunc).run Tryz.prog w = .ok (.bool true) w := by kernel_rfl
theorem num_calls (n : Int) (w : World) : Calls Tryz.prog 16 #[.int .i64 n] w fun e w' => e = .returned (.int .i64 n) ∧ w = w' := by
 go_enter Tryz.func16, Tryz.ntmps16
 go_wp2_with fail
 go_ret
 exact ⟨rfl, rfl⟩
theorem works_calls (w : World) (he : EnvJ w) : Calls Tryz.prog 12 #[] w fun e w' => e = .returned (.bool true) ∧ Below w.heap.size w w' := by
 have He := hid he
 clear he
 have kc := fun (w : World) (C : Array Value) (n c : Nat) => Lib.run_convert_bytes_const (P := Tryz.prog) w 22 5 C n c Tryz.underlying22 Tryz.underlying5
 go_enter Tryz.func12, Tryz.ntmps12
 go_wp2_with fail
 have hx : BytS (w.alloc (Obj.cells #[Value.int IntKind.u8 32, Value.int IntKind.u8 123, Value.int IntKind.u8 34, Value.int IntKind.u8 98, Value.int IntKind.u8 34, Value.int IntKind.u8 32, Value.int IntKind.u8 58, Value.int IntKind.u8 32, Value.int IntKind.u8 91, Value.int IntKind.u8 49, Value.int IntKind.u8 46, Value.int IntKind.u8 53, Value.int IntKind.u8 48, Value.int IntKind.u8 44, Value.int IntKind.u8 32, Value.int IntKind.u8 110, Value.int IntKind.u8 117, Value.int IntKind.u8 108, Value.int IntKind.u8 108, Value.int IntKind.u8 93, Value.int IntKind.u8 44, Value.int IntKind.u8 32, Value.int IntKind.u8 34, Value.int IntKind.u8 97, Value.int IntKind.u8 34, Value.int IntKind.u8 58, Value.int IntKind.u8 34, Value.int IntKind.u8 92, Value.int IntKind.u8 117, Value.int IntKind.u8 48, Value.int IntKind.u8 48, Value.int IntKind.u8 101, Value.int IntKind.u8 57, Value.int IntKind.u8 34, Value.int IntKind.u8 125, Value.int IntKind.u8 32] 5 (36, 37))) (.slice (some ⟨w.heap.size, 0, none⟩) 36 36) wb1 := byts_litF w wb1 (36, 37) (by decide)
 have hb : Below w.heap.size w (w.alloc (Obj.cells #[Value.int IntKind.u8 32, Value.int IntKind.u8 123, Value.int IntKind.u8 34, Value.int IntKind.u8 98, Value.int IntKind.u8 34, Value.int IntKind.u8 32, Value.int IntKind.u8 58, Value.int IntKind.u8 32, Value.int IntKind.u8 91, Value.int IntKind.u8 49, Value.int IntKind.u8 46, Value.int IntKind.u8 53, Value.int IntKind.u8 48, Value.int IntKind.u8 44, Value.int IntKind.u8 32, Value.int IntKind.u8 110, Value.int IntKind.u8 117, Value.int IntKind.u8 108, Value.int IntKind.u8 108, Value.int IntKind.u8 93, Value.int IntKind.u8 44, Value.int IntKind.u8 32, Value.int IntKind.u8 34, Value.int IntKind.u8 97, Value.int IntKind.u8 34, Value.int IntKind.u8 58, Value.int IntKind.u8 34, Value.int IntKind.u8 92, Value.int IntKind.u8 117, Value.int IntKind.u8 48, Value.int IntKind.u8 48, Value.int IntKind.u8 101, Value.int IntKind.u8 57, Value.int IntKind.u8 34, Value.int IntKind.u8 125, Value.int IntKind.u8 32] 5 (36, 37))) := (Below.refl _ _).alloc (Nat.le_refl _) _
 generalize (w.alloc (Obj.cells #[Value.int IntKind.u8 32, Value.int IntKind.u8 123, Value.int IntKind.u8 34, Value.int IntKind.u8 98, Value.int IntKind.u8 34, Value.int IntKind.u8 32, Value.int IntKind.u8 58, Value.int IntKind.u8 32, Value.int IntKind.u8 91, Value.int IntKind.u8 49, Value.int IntKind.u8 46, Value.int IntKind.u8 53, Value.int IntKind.u8 48, Value.int IntKind.u8 44, Value.int IntKind.u8 32, Value.int IntKind.u8 110, Value.int IntKind.u8 117, Value.int IntKind.u8 108, Value.int IntKind.u8 108, Value.int IntKind.u8 93, Value.int IntKind.u8 44, Value.int IntKind.u8 32, Value.int IntKind.u8 34, Value.int IntKind.u8 97, Value.int IntKind.u8 34, Value.int IntKind.u8 58, Value.int IntKind.u8 34, Value.int IntKind.u8 92, Value.int IntKind.u8 117, Value.int IntKind.u8 48, Value.int IntKind.u8 48, Value.int IntKind.u8 101, Value.int IntKind.u8 57, Value.int IntKind.u8 34, Value.int IntKind.u8 125, Value.int IntKind.u8 32] 5 (36, 37))) = w1 at hx hb ⊢
 refine (parseP_calls w1 _ wb1 hx (He.out.below hb (Nat.le_refl _)).utf).mono ?_
 rintro e w2 ⟨r, rfl, hr, hj, hb2⟩
 rw [par_wb1] at hr ⊢
 simp only at hr
 have HR := hid hr
 have HJ := hid hj
 have HSL := hid hj.slJ
 have HB2 := hid (hb.trans (hb2.mono hb.size))
 clear hx hb hb2 hr hj
 go_upto_region 2 with (first | (refine wpList_allocJ rfl rfl ?_; intro wa hBx) | (refine wpList_storeJ rfl _ _ rfl rfl hBx.row rfl r HSL.out rfl rfl ?_; intro wS hSx))
 have HV := hid hSx.row
 have HBS : Hid (Below w2.heap.size w2 wS) := hid (hSx.below hBx.be (Nat.le_refl _) hBx.be.size)
 have HJS := hid (HJ.out.bel HBS.out)
 have HB3 := hid (HB2.out.trans (HBS.out.mono HB2.out.size))
 obtain ⟨g1, hg1⟩ : ∃ g, w2.heap.size = g := ⟨_, rfl⟩
 rw [hg1] at HV ⊢
 clear hBx hSx hg1 HBS HB2 HJ
 have HE3 := hid (He.out.below HB3.out (Nat.le_refl _))
 have hsz1 : szJ r.1 ≤ 20000000 := by rw [HR.out]; exact sz_jv.1
 go_wp2_with (refine wpList_loadJ rfl _ rfl r HV.out rfl ?_)
 refine (sortedJ_calls HJS.out HE3.out.tab HE3.out.utf wS (Below.refl _ _) hsz1).mono ?_
 rintro e w4 ⟨lv, nv, rfl, hj4, hb4⟩
 rw [HR.out, srtV_jv1] at hj4 ⊢
 have HJ4 := hid hj4
 have HB4 := hid hb4
 have HV4 := hid (HV.out.below hb4)
 clear hj4 hb4 HV
 obtain ⟨r2, hr2⟩ : ∃ r : JR, (jv2, lv, nv) = r := ⟨_, rfl⟩
 have HR2 : Hid (r2.1 = jv2) := hid (by rw [← hr2])
 rw [hr2] at HJ4 ⊢
 clear hr2
 go_wp2_with fail
 refine (printJ_calls HJ4.out (HE3.out.below HB4.out (Nat.le_refl _)).tab (HE3.out.below HB4.out (Nat.le_refl _)).utf w4 (Below.refl _ _) (by rw [HR2.out]; exact sz_jv.2)).mono ?_
 rintro e w5 ⟨v5, rfl, hF5, hb5⟩
 rw [HR2.out, prn_jv2] at hF5
 have HF5 := hid hF5
 have HB5 : Hid (Below wS.heap.size wS w5) := hid (HB4.out.trans (hb5.mono HB4.out.size))
 have HV5 := hid (HV4.out.below hb5)
 clear hF5 hb5 HB4 HV4 HJ4 HR2
 obtain ⟨ps, cs, hps⟩ := HF5.out.slice
 obtain ⟨m, hml⟩ := HE3.out.ml
 have HML := hid hml
 clear hml
 rw [hps] at HF5 ⊢
 clear hps
 go_wp2_with (refine wpList_loadJ rfl _ rfl r HV5.out rfl ?_)
 refine (pointer_calls HJS.out HE3.out.tab HE3.out.errs HE3.out.utf m HML.out w5 HB5.out hsz1 [47, 98, 47, 48] (by decide)).mono ?_
 rintro e w6 ⟨lv6, nv6, rfl, hj6, hb6⟩
 rw [HR.out, ptr_jv1] at hj6 ⊢
 have HJ6 := hid hj6
 have HSL6 := hid hj6.slJ
 have HF6 := hid (HF5.out.below hb6)
 have HB6 : Hid (Below wS.heap.size wS w6) := hid (HB5.out.trans (hb6.mono HB5.out.size))
 have HV6 := hid (HV5.out.below hb6)
 clear hj6 hb6 HF5 HB5 HV5 HML
 go_upto_region 4 with (first | (refine wpList_allocJ rfl rfl ?_; intro wa6 hBx6) | (refine wpList_storeJ rfl _ _ rfl rfl hBx6.row rfl (jnum, lv6, nv6) HSL6.out rfl rfl ?_; intro wS6 hSx6))
 have HX7 := hid hSx6.row
 have HBS7 : Hid (Below w6.heap.size w6 wS6) := hid (hSx6.below hBx6.be (Nat.le_refl _) hBx6.be.size)
 have HV7 := hid (HV6.out.below HBS7.out)
 have HF7 := hid (HF6.out.below HBS7.out)
 have HB7 : Hid (Below wS.heap.size wS wS6) := hid (HB6.out.trans (HBS7.out.mono HB6.out.size))
 obtain ⟨g4, hg4⟩ : ∃ g, w6.heap.size = g := ⟨_, rfl⟩
 rw [hg4] at HX7 ⊢
 clear hBx6 hSx6 hg4 HBS7 HV6 HF6 HB6 HJ6 HSL6
 go_wp2_with fail
 have hx : BytS (wS6.alloc (Obj.cells #[Value.int IntKind.u8 91, Value.int IntKind.u8 49, Value.int IntKind.u8 44, Value.int IntKind.u8 93] 5 (4, 5))) (.slice (some ⟨wS6.heap.size, 0, none⟩) 4 4) wb2 := byts_litF wS6 wb2 (4, 5) (by decide)
 have hb : Below wS6.heap.size wS6 (wS6.alloc (Obj.cells #[Value.int IntKind.u8 91, Value.int IntKind.u8 49, Value.int IntKind.u8 44, Value.int IntKind.u8 93] 5 (4, 5))) := (Below.refl _ _).alloc (Nat.le_refl _) _
 generalize (wS6.alloc (Obj.cells #[Value.int IntKind.u8 91, Value.int IntKind.u8 49, Value.int IntKind.u8 44, Value.int IntKind.u8 93] 5 (4, 5))) = w8 at hx hb ⊢
 refine (parseP_calls w8 _ wb2 hx (HE3.out.below (HB7.out.trans (hb.mono HB7.out.size)) (Nat.le_refl _)).utf).mono ?_
 rintro e w9 ⟨r9, rfl, hr9, hj9, hb9⟩
 rw [par_wb2] at hr9 ⊢
 have HSL9 := hid hj9.slJ
 have HQ9 : Hid (Below wS6.heap.size wS6 w9) := hid (hb.trans (hb9.mono hb.size))
 clear hx hb hb9 hr9 hj9
 go_upto_region 5 with (first | (refine wpList_allocJ rfl rfl ?_; intro wa9 hBx9) | (refine wpList_storeJ rfl _ _ rfl rfl hBx9.row rfl r9 HSL9.out rfl rfl ?_; intro wS9 hSx9))
 have HQS : Hid (Below wS6.heap.size wS6 wS9) := hid (HQ9.out.trans ((hSx9.below hBx9.be (Nat.le_refl _) hBx9.be.size).mono HQ9.out.size))
 have HX9 := hid (HX7.out.below HQS.out)
 have HV9 := hid (HV7.out.below HQS.out)
 have HF9 := hid (HF7.out.below HQS.out)
 have HB9 : Hid (Below wS.heap.size wS wS9) := hid (HB7.out.trans (HQS.out.mono HB7.out.size))
 clear hBx9 hSx9 HQ9 HQS HX7 HV7 HF7 HB7 HSL9
 go_wp2_with fail
 refine (num_calls _ wS9).mono ?_
 rintro e wq ⟨rfl, rfl⟩
 go_wp2_with fail
 refine (num_calls _ wS9).mono ?_
 rintro e wq ⟨rfl, rfl⟩
 have hcv : (convert 22 9 (.slice ps 25 cs)).run Tryz.prog wS9 = .ok (.string ⟨#[123, 34, 97, 34, 58, 34, 195, 169, 34, 44, 34, 98, 34, 58, 91, 49, 46, 53, 44, 110, 117, 108, 108, 93, 125]⟩) wS9 := HF9.out.string
 have c2 : _ = some (Value.bool false) := HX9.out.cell 2 _ rfl
 have c3 : _ = some (Value.string ⟨#[49, 53]⟩) := HX9.out.cell 3 _ rfl
 have c4 : _ = some (Value.int .i64 (-1)) := HX9.out.cell 4 _ rfl
 have hpr : pr1 = [123, 34, 97, 34, 58, 34, 195, 169, 34, 44, 34, 98, 34, 58, 91, 49, 46, 53, 44, 110, 117, 108, 108, 93, 125] := rfl
 rw [hpr]
 clear hpr
 go_wp2_with fail
 refine (num_calls _ wS9).mono ?_
 rintro e wq ⟨rfl, rfl⟩
 clear hcv c2 c3 c4
 have k0 : wS9.cell? ⟨g1, 0, none⟩ = some (.int .i64 r.1.kind) := HV9.out.cell 0 _ rfl
 have k1 : wS9.cell? ⟨g1, 1, none⟩ = some (.bool r.1.b) := HV9.out.cell 1 _ rfl
 have k2 : wS9.cell? ⟨g1, 2, none⟩ = some (.bool r.1.n.neg) := HV9.out.cell 2 _ rfl
 have k3 : wS9.cell? ⟨g1, 3, none⟩ = some (.string ⟨r.1.n.digits.toArray⟩) := HV9.out.cell 3 _ rfl
 have k4 : wS9.cell? ⟨g1, 4, none⟩ = some (.int .i64 r.1.n.exp) := HV9.out.cell 4 _ rfl
 have k5 : wS9.cell? ⟨g1, 5, none⟩ = some (.string ⟨r.1.t.toArray⟩) := HV9.out.cell 5 _ rfl
 have k6 : wS9.cell? ⟨g1, 6, none⟩ = some (r.2.1) := HV9.out.cell 6 _ rfl
 have k7 : wS9.cell? ⟨g1, 7, none⟩ = some (r.2.2) := HV9.out.cell 7 _ rfl
 go_wp2_with fail
 refine (allJ_calls (r1 := r) HJS.out HE3.out.tab HE3.out.utf wS9 HB9.out hsz1).mono ?_
 rintro e wz ⟨ga, la, na, rfl, _, _, _, hbz⟩
 have HBZ : Hid (Below w.heap.size w wz) := hid (HB3.out.trans ((HB9.out.trans (hbz.mono HB9.out.size)).mono HB3.out.size))
 clear k0 k1 k2 k3 k4 k5 k6 k7 hbz hsz1
 have hnf := all_nil ga wz
 go_wp2_with fail
 go_ret
 exact ⟨rfl, HBZ.out⟩
end Go.Proofs.YtfclfaidmipjpaaGreatDoor
