/- Texts of this claim, joined: ToH, RegT, Cop. -/
import Derived.Test.YtfclfaidmipjpaaGreatDoorCo12
namespace Go.Proofs.YtfclfaidmipjpaaGreatDoor
set_option maxRecDepth 100000
set_option maxHeartbeats 20000000
open Go.Lib (hid)
open Go.RowKit
theorem FB.apartJ {w w' : World} {B : Nat} {v : Value} {l : List UInt8} (h : FB w B v l) {g : Nat} (hj : JBlk w g) (ha : Apart (fun k => k = g) w w') : FB w' B v l := by
 refine ⟨h.1, ?_⟩
 rcases h.2 with hn | ⟨g', cap, cur, fz, hv, hbg, hg, rest⟩
 ·exact .inl hn
 have hne : ¬ g' = g := fun e => by
  obtain ⟨c2, fz2, hc2⟩ := hj
  rw [e, hc2] at hg
  injection hg with hg
  injection hg with _ h2
  exact absurd h2 (by decide)
 exact .inr ⟨g', cap, cur, fz, hv, hbg, by rw [ha.block g' (Array.getElem?_eq_some_iff.1 hg).1 hne]; exact hg, rest⟩
theorem toldL_take (obj : Bool) : ∀ (l : List J) (f : Bool) (ns : List (List UInt8)) (i : Nat), (toldL obj f (l.take i) ns).length ≤ (toldL obj f l ns).length
 | [], f, ns, i => by simp
 | x :: l, f, ns, 0 => by simp [toldL]
 | x :: l, f, ns, i + 1 => by
  rw [List.take_succ_cons, toldL, toldL]
  have := toldL_take obj l false ns.tail i
  simp only [List.length_append]
  omega
theorem goodL_at {l : List J} {i : Nat} {x : J} (h : goodL l = true) (hx : l[i]? = some x) : goodJ x = true := by
 induction l generalizing i with
 | nil => simp at hx
 | cons y l ih =>
  rw [goodL, Bool.and_eq_true] at h
  cases i with
  | zero => simp only [List.getElem?_cons_zero, Option.some.injEq] at hx; rw [← hx]; exact h.1
  | succ i => exact ih h.2 (by simpa using hx)
theorem good_in {k : Int} {b : Bool} {n : Dec} {t : List UInt8} {l : List J} {ns : List (List UInt8)} (h : goodJ (.mk k b n t l ns) = true) {i : Nat} {x : J} (hx : l[i]? = some x) : goodJ x = true := by
 rw [goodJ, Bool.and_eq_true] at h
 exact goodL_at h.2 hx
section
variable {P : Program} {ops : Array Oper} {Q : Exit → Act → World → Prop} {md : Region.Mode} {S : World → Prop} {late : List Nat}
def wpAnyT (P : Program) (md : Region.Mode) (ops : Array Oper) (Q : Exit → Act → World → Prop) (S : World → Prop) (late : List Nat) : Nat → Array Bool → Act → World → Prop
 | 0, listed, a, w => Region.ready md ops listed = [] ∧ Q .normal a w
 | fuel + 1, listed, a, w =>
  (Region.ready md ops listed = [] → Q .normal a w) ∧
  ∀ i ∈ Region.ready md ops listed, wpOp P ops Q i (fun a' w' => (late.contains i = false → S w') ∧ wpAnyT P md ops Q S late fuel (listed.setIfInBounds i true) a' w') a w
theorem wpAny_of_T : ∀ (fuel : Nat) (listed : Array Bool) (a : Act) (w : World), wpAnyT P md ops Q S late fuel listed a w → wpAny P md ops Q fuel listed a w
 | 0, _, _, _, h => h
 | fuel + 1, _, _, _, h => ⟨h.1, fun i hi => wpOp_mono (fun a' w' h' => wpAny_of_T fuel _ a' w' h'.2) (h.2 i hi)⟩
def waitsAll (md : Region.Mode) (ops : Array Oper) (late : List Nat) : Bool := late.all fun t => match ops[t]? with
 | none => true
 | some o => (List.range ops.size).all fun i => late.contains i || o.after.any fun e => Region.binds md e && e.on == i
theorem not_ready_last (hw : waitsAll md ops late = true) {listed : Array Bool} {i j : Nat} (hi : i ∈ Region.ready md ops listed) (hne : late.contains i = false) (hj : j ∈ Region.ready md ops listed) : late.contains j = false := by
 cases hl : late.contains j with
 | false => rfl
 | true =>
  exfalso
  obtain ⟨_, o, ho, hall⟩ := mem_ready.1 hj
  obtain ⟨h0, oi, hoi, _⟩ := mem_ready.1 hi
  unfold waitsAll at hw
  have h2 := List.all_eq_true.1 hw j (by simpa using hl)
  rw [ho] at h2
  have h3 := List.all_eq_true.1 h2 i (List.mem_range.2 (Array.getElem?_eq_some_iff.1 hoi).1)
  rw [hne, Bool.false_or, Array.any_eq_true] at h3
  obtain ⟨k, hk, h4⟩ := h3
  rw [Bool.and_eq_true, beq_iff_eq] at h4
  have h1 := hall _ (Array.getElem_mem hk) h4.1
  rw [h4.2] at h1
  rcases Nat.lt_or_ge i listed.size with h' | h'
  ·simp [h'] at h0 h1; rw [h0] at h1; cases h1
  simp [Array.getElem?_eq_none h'] at h1
theorem wpAnyT_first {i : Nat} {oi : Oper} {v : Value} (hi : ops[i]? = some oi) (hsel : ∀ (j : Nat) (o : Oper) cs b, ops[j]? = some o → o.op ≠ .select cs b)
  (hQ : ∀ c a w, Q (.panic c) (a.put oi.dst v) w → Q (.panic c) a w) (hwt : waitsAll md ops late = true) (hit : late.contains i = false) :
  ∀ (fuel : Nat) (listed : Array Bool) (a : Act) (w : World),
   (∀ j oj, ops[j]? = some oj → j ≠ i → listed.getD j true = false → (∀ e ∈ oj.after, Region.binds md e = true → e.on ≠ i) → oi.apart ops oj = true) →
   i ∈ Region.ready md ops listed → YieldsIf P ops S oi v a → S w →
   wpAnyT P md ops Q S late fuel (listed.setIfInBounds i true) (a.put oi.dst v) w → wpAnyT P md ops Q S late (fuel + 1) listed a w := by
 intro fuel
 induction fuel with
 | zero =>
  intro listed a w _ hr hy hS H
  refine ⟨fun h => (by rw [h] at hr; cases hr), fun j hj => ?_⟩
  by_cases hji : j = i
  ·subst hji; exact hy.wpOp hi hS ⟨fun _ => hS, H⟩
  have := ready_mono hj hji
  rw [H.1] at this
  cases this
 | succ fuel ih =>
  intro listed a w hfree hr hy hS H
  refine ⟨fun h => (by rw [h] at hr; cases hr), fun j hj => ?_⟩
  by_cases hji : j = i
  ·subst hji; exact hy.wpOp hi hS ⟨fun _ => hS, H⟩
  have hjt : late.contains j = false := not_ready_last hwt hr hit hj
  have h1 := H.2 j (ready_mono hj hji)
  obtain ⟨hjun, oj, hoj, hall⟩ := mem_ready.1 hj
  have hnot : ∀ e ∈ oj.after, Region.binds md e = true → e.on ≠ i := fun e he hb heq => by
   have h1 := hall e he hb
   have h0 := (mem_ready.1 hr).1
   rw [heq] at h1
   rcases Nat.lt_or_ge i listed.size with h' | h'
   ·simp [h'] at h0 h1; rw [h0] at h1; cases h1
   simp [Array.getElem?_eq_none h'] at h1
  have h2 := wpOp_putIf hoj (hfree j oj hoj hji hjun hnot) (fun cs b => hsel i oi cs b hi) (fun cs b => hsel j oj cs b hoj) hQ hy h1
  have hfree' : ∀ k ok, ops[k]? = some ok → k ≠ i → (listed.setIfInBounds j true).getD k true = false →
    (∀ e ∈ ok.after, Region.binds md e = true → e.on ≠ i) → oi.apart ops ok = true := fun k ok hk hki hun hno => by
   refine hfree k ok hk hki ?_ hno
   by_cases hjk : j = k
   ·subst hjk; exact hjun
   ·rw [getD_set_ne true hjk] at hun; exact hun
  refine wpOp_mono (fun a' w' h3 => ⟨h3.2.1, ih (listed.setIfInBounds j true) a' w' hfree' (ready_mono hr (Ne.symm hji)) h3.1 (h3.2.1 hjt) ?_⟩) h2
  rw [Array.setIfInBounds_comm _ _ hji]
  exact h3.2.2
theorem wp_region_heldT (late : List Nat) {id : Nat} {a : Act} {w : World} (hm : P.follows .mixedOrders = true) (hS : S w.drew) (h : S w.drew → wpAnyT P .any ops Q S late ops.size (Array.replicate ops.size false) a w.drew) : (Code.region id ops true).wp P Q a w :=
 wp_region_any hm (wpAny_of_T _ _ _ _ (h hS))
theorem heldT_take (i : Nat) {oi : Oper} {rest : List Oper} (v : Value) {fuel : Nat} {listed : Array Bool} {a : Act} {w : World} (hi : ops.toList.drop i = oi :: rest)
  (hy : ∀ w, S w → (execOp a.eval oi).run P w = .ok (.value v) w) (hS : S w)
  (h : wpAnyT P md ops Q S late fuel (listed.setIfInBounds i true) (a.put oi.dst v) w)
  (hs : Region.noSelect ops = true := by kernel_rfl) (hf : Region.free md ops listed i = true := by kernel_rfl) (hr : (Region.ready md ops listed).contains i = true := by kernel_rfl) (hwt : waitsAll md ops late = true := by kernel_rfl) (hit : late.contains i = false := by rfl)
  (hQ : ∀ c a w, Q (.panic c) (a.put oi.dst v) w → Q (.panic c) a w := by exact fun _ _ _ h => h) (hw : Region.wanted oi (yielded ops a.tmps) = true := by rfl) : wpAnyT P md ops Q S late (fuel + 1) listed a w :=
 wpAnyT_first (op_at hi) (Region.noSelect_spec hs) hQ hwt hit fuel listed a w (Region.free_spec (op_at hi) hf) (by simpa using hr) (.inl ⟨hw, hy⟩) hS h
theorem heldT_ta (i : Nat) {v : Value} {oi : Oper} {rest : List Oper} {fuel : Nat} {listed : Array Bool} {a a' : Act} {w : World} (hS : S w) (h : wpAnyT P md ops Q S late fuel (listed.setIfInBounds i true) a' w) (hi : ops.toList.drop i = oi :: rest := by exact rfl)
 (hs : Region.noSelect ops = true := by kernel_rfl) (hf : Region.free md ops listed i = true := by kernel_rfl) (hr : (Region.ready md ops listed).contains i = true := by kernel_rfl) (hwt : waitsAll md ops late = true := by kernel_rfl) (hit : late.contains i = false := by rfl)
 (hy : ∀ w, S w → (execOp a.eval oi).run P w = .ok (.value v) w := by intro wq hSq; (try dsimp only at hSq); go_simp; try with_reducible rfl) (hw : Region.wanted oi (yielded ops a.tmps) = true := by rfl)
 (ha : a.put oi.dst v = a' := by simp only [Act.put, List.setIfInBounds_toArray, List.set_cons_zero, List.set_cons_succ]; rfl) (hQ : ∀ c a w, Q (.panic c) (a.put oi.dst v) w → Q (.panic c) a w := by exact fun _ _ _ h => h) : wpAnyT P md ops Q S late (fuel + 1) listed a w := by
 subst ha
 exact heldT_take i v hi hy hS h hs hf hr hwt hit hQ hw
theorem heldT_tv (i : Nat) (v : Value) {oi : Oper} {rest : List Oper} {fuel : Nat} {listed : Array Bool} {a a' : Act} {w : World} (hi : ops.toList.drop i = oi :: rest) (hy : ∀ w, S w → (execOp a.eval oi).run P w = .ok (.value v) w) (hS : S w) (h : wpAnyT P md ops Q S late fuel (listed.setIfInBounds i true) a' w)
 (hs : Region.noSelect ops = true := by kernel_rfl) (hf : Region.free md ops listed i = true := by kernel_rfl) (hr : (Region.ready md ops listed).contains i = true := by kernel_rfl) (hwt : waitsAll md ops late = true := by kernel_rfl) (hit : late.contains i = false := by rfl)
 (hw : Region.wanted oi (yielded ops a.tmps) = true := by rfl)
 (ha : a.put oi.dst v = a' := by simp only [Act.put, List.setIfInBounds_toArray, List.set_cons_zero, List.set_cons_succ]; rfl) (hQ : ∀ c a w, Q (.panic c) (a.put oi.dst v) w → Q (.panic c) a w := by exact fun _ _ _ h => h) : wpAnyT P md ops Q S late (fuel + 1) listed a w := by
 subst ha
 exact heldT_take i v hi hy hS h hs hf hr hwt hit hQ hw
theorem oneT {i : Nat} {o : Oper} {rest : List Oper} {fuel : Nat} {listed : Array Bool} {a : Act} {w : World} (ho : ops.toList.drop i = o :: rest) (hw : Region.wanted o (yielded ops a.tmps) = true)
  (h : ∀ K : Act → World → Prop, Shut (∀ a w, S w → (S w → wpAnyT P md ops Q S late fuel (listed.setIfInBounds i true) a w) → K a w) → Oper.wp P o a w K Q) :
  wpOp P ops Q i (fun a' w' => (late.contains i = false → S w') ∧ wpAnyT P md ops Q S late fuel (listed.setIfInBounds i true) a' w') a w :=
 wpOp_step (op_at ho) (fun K hK => by rw [if_pos hw]; exact h K (fun a w hS hW => hK a w ⟨fun _ => hS, hW hS⟩))
theorem wpAnyT_all {rs : List Nat} {fuel : Nat} {listed : Array Bool} {a : Act} {w : World} (hr : Region.ready md ops listed = rs) (hne : rs ≠ [])
  (h : ∀ i ∈ rs, wpOp P ops Q i (fun a' w' => (late.contains i = false → S w') ∧ wpAnyT P md ops Q S late fuel (listed.setIfInBounds i true) a' w') a w) : wpAnyT P md ops Q S late (fuel + 1) listed a w :=
 ⟨fun h0 => absurd (hr ▸ h0) hne, hr ▸ h⟩
theorem heldT_step (i : Nat) {o : Oper} {rest : List Oper} {fuel : Nat} {listed : Array Bool} {a : Act} {w : World} (ho : ops.toList.drop i = o :: rest)
  (h : ∀ K : Act → World → Prop, Shut (∀ a w, S w → (S w → wpAnyT P md ops Q S late fuel (listed.setIfInBounds i true) a w) → K a w) → Oper.wp P o a w K Q)
  (hr : Region.ready md ops listed = [i] := by kernel_rfl) (hw : Region.wanted o (yielded ops a.tmps) = true := by rfl) : wpAnyT P md ops Q S late (fuel + 1) listed a w :=
 wpAnyT_all hr (by simp) (fun k hk => by rw [List.mem_singleton.1 hk]; exact oneT ho hw h)
theorem heldT_two (i j : Nat) {o o' : Oper} {rest rest' : List Oper} {fuel : Nat} {listed : Array Bool} {a : Act} {w : World} (ho : ops.toList.drop i = o :: rest) (ho' : ops.toList.drop j = o' :: rest')
  (h : ∀ K : Act → World → Prop, Shut (∀ a w, S w → (S w → wpAnyT P md ops Q S late fuel (listed.setIfInBounds i true) a w) → K a w) → Oper.wp P o a w K Q)
  (h' : ∀ K : Act → World → Prop, Shut (∀ a w, S w → (S w → wpAnyT P md ops Q S late fuel (listed.setIfInBounds j true) a w) → K a w) → Oper.wp P o' a w K Q)
  (hr : Region.ready md ops listed = [i, j] := by kernel_rfl) (hw : Region.wanted o (yielded ops a.tmps) = true := by rfl) (hw' : Region.wanted o' (yielded ops a.tmps) = true := by rfl) : wpAnyT P md ops Q S late (fuel + 1) listed a w :=
 wpAnyT_all hr (by simp) (fun k hk => by
  rcases List.mem_cons.1 hk with rfl | hk
  ·exact oneT ho hw h
  rw [List.mem_singleton.1 hk]; exact oneT ho' hw' h')
def allLate (ops : Array Oper) (listed : Array Bool) (late : List Nat) : Bool := (List.range ops.size).all fun i => listed.getD i true || late.contains i
theorem late_of_held : ∀ (fuel : Nat) (listed : Array Bool) (a : Act) (w : World), (∀ i, i < ops.size → listed.getD i true = false → late.contains i = true) → wpAnyH P md ops Q (fun _ => True) fuel listed a w → wpAnyT P md ops Q S late fuel listed a w
 | 0, _, _, _, _, h => h
 | fuel + 1, listed, _, _, hl, h => ⟨h.1, fun i hi => by
  obtain ⟨h0, oi, hoi, _⟩ := mem_ready.1 hi
  have hlt := (Array.getElem?_eq_some_iff.1 hoi).1
  refine wpOp_mono (fun a' w' h3 => ⟨fun hn => ?_, late_of_held fuel _ a' w' (fun j hj hun => ?_) h3.2⟩) (h.2 i hi)
  ·rw [hl i hlt h0] at hn; cases hn
  by_cases hij : i = j
  ·subst hij; exact hl i hlt h0
  rw [getD_set_ne true hij] at hun; exact hl j hj hun⟩
theorem heldT_late {fuel : Nat} {listed : Array Bool} {a : Act} {w : World} (h : wpAnyH P md ops Q (fun _ => True) fuel listed a w) (hl : allLate ops listed late = true := by kernel_rfl) : wpAnyT P md ops Q S late fuel listed a w :=
 late_of_held fuel listed a w (fun i hi hun => by
  have h1 := List.all_eq_true.1 hl i (List.mem_range.2 hi)
  rw [hun, Bool.false_or] at h1
  exact h1) h
end
open Go.RowKit
def CopTo (w : World) (v : J) (e : Ending) (w' : World) : Prop := ∃ lv nv, e = .returned (jval (v, lv, nv)) ∧ JV w' (fun k => w.heap.size ≤ k) (v, lv, nv) ∧ Below w.heap.size w w'
theorem copied_calls {w0 : World} {S1 : Nat → Prop} {r1 : JR} (h1 : JV w0 S1 r1) : ∀ (so : Bool) (w : World), Below w0.heap.size w0 w → goodJ r1.1 = true → szJ r1.1 ≤ 100000000 →
  Calls Tryz.prog 58 #[jval r1, .bool so] w (CopTo w (cpJ so r1.1)) := by
 induction h1 with
 | mk r1 xs hn1 hl1 hs1 ih =>
  intro so w hb hgood hsz
  obtain ⟨⟨k, b, n, t, l, ns⟩, lv0, nv0⟩ := r1
  have hn0 := hn1
  obtain ⟨p1, c1, hp1, hc1, hm1, hL1⟩ := hl1
  change lv0 = Value.slice p1 l.length c1 at hp1
  obtain ⟨q1, e1, hq1, hcn1, hk1, hN1⟩ := hn1
  change nv0 = Value.slice q1 ns.length e1 at hq1
  subst hp1 hq1
  simp only [J.l] at hm1 hL1 hc1
  simp only [J.ns] at hN1
  simp only [szJ] at hsz
  have hln : l.length ≤ 100000000 := by have := szL_len l; omega
  have hnn : ns.length ≤ 100000000 := by have := szN_len ns; omega
  change NamS w0 S1 (Value.slice q1 ns.length e1) ns at hn0
  obtain ⟨R1, hR1⟩ : ∃ R : JR, ((J.mk k b n t l ns, Value.slice p1 l.length c1, Value.slice q1 ns.length e1) : JR) = R := ⟨_, rfl⟩
  have HSJ1 : Hid (SlJ R1) := hid (by rw [← hR1]; exact ⟨rfl, rfl⟩)
  have HC1 : Hid (jcells R1 = headC (J.mk k b n t l ns) (Value.slice p1 l.length c1) (Value.slice q1 ns.length e1)) := hid (by rw [← hR1]; rfl)
  have HCC : Hid (∀ (W : World) (g : Nat), RowAt W g (jcells R1) → RowAt W g [.int .i64 k, .bool b, .bool n.neg, .string ⟨n.digits.toArray⟩, .int .i64 n.exp, .string ⟨t.toArray⟩, .slice p1 l.length c1, .slice q1 ns.length e1]) := hid (fun W g h => by rw [HC1.out] at h; exact h)
  have HR1 : Hid (R1.1 = J.mk k b n t l ns) := hid (by rw [← hR1])
  have HN0 := hid hn0
  have HL := hid hL1
  have HN := hid hN1
  have HB := hid hb
  have HIH := hid ih
  have HJS := hid hs1
  have HG := hid hgood
  have HSZ : Hid (szL l ≤ 100000000) := hid (by omega)
  rw [hR1]
  clear hR1 hn0 hL1 hN1 hb ih hs1 hgood hsz hcn1 hk1 hc1 hm1
  have HCJ : Hid (cpJ so (J.mk k b n t l ns) = .mk k b n t (cpL so k l ns) (cpN so ns)) := hid (cpJ_mk so k b n t l ns)
  rw [show cpJ so (R1.1) = cpJ so (J.mk k b n t l ns) by rw [HR1.out]]
  obtain ⟨CJ, hCJ⟩ : ∃ c, cpJ so (J.mk k b n t l ns) = c := ⟨_, rfl⟩
  rw [hCJ] at HCJ ⊢
  clear hCJ
  go_enter Tryz.func58, Tryz.ntmps58
  go_upto_region 1 with (first | (refine wpList_boxJ rfl _ rfl R1 rfl ?_; intro w1 hBx1) | (refine wpList_allocJ rfl rfl ?_; intro w2 hBx2))
  have hv2 := hBx1.row.below hBx2.be
  have hz1 := hBx1.size
  have hz2 := hBx2.size
  have HW2 : Hid (Below w.heap.size w w2) := hid (hBx2.below hBx1.be hBx1.be.size)
  go_upto_region 2 with (first | refine wpList_loadJ rfl _ rfl R1 hv2 rfl ?_ | (refine wpList_allocJ rfl rfl ?_; intro w3 hBx3) | (refine wpList_storeJ rfl _ _ rfl rfl hBx3.row rfl R1 HSJ1.out rfl rfl ?_; intro w4 hSx4))
  have hz3 := hBx3.size
  have hz4 := hSx4.size
  have ho4 := hSx4.row
  have hv4 := (hv2.below hBx3.be).apart hSx4.apart (by omega)
  have hr4 := (hBx2.row.below hBx3.be).apart hSx4.apart (by omega)
  have HW4 : Hid (Below w.heap.size w w4) := hid (hSx4.below (hBx3.below HW2.out HW2.out.size) (by omega) (by omega))
  obtain ⟨g, hg⟩ : ∃ g, w.heap.size = g := ⟨_, rfl⟩
  have hy1 : w1.heap.size = g + 1 := by omega
  have hy2 : w2.heap.size = g + 2 := by omega
  have hy4 : w4.heap.size = g + 3 := by omega
  rw [hg] at hv4 ⊢
  rw [hy1] at hr4 ⊢
  rw [hy2] at ho4 ⊢
  have HG0 : Hid (w.heap.size = g) := hid hg
  have HY4 : Hid (w4.heap.size = g + 3) := hid hy4
  have HV4 := hid hv4
  have HR4 := hid hr4
  rw [HC1.out] at ho4
  have HO4 := hid ho4
  clear hv2 hz1 hz2 hz3 hz4 hBx1 hBx2 hBx3 hSx4 HW2 ho4 hv4 hr4 hg hy1 hy2 hy4
  have v7 : _ = some (Value.slice q1 ns.length e1) := (HCC.out _ _ HV4.out).cell 7 _ rfl
  go_wp2_with fail
  refine (clone_calls (HN0.out.below (HB.out.trans (HW4.out.mono HB.out.size))) (by omega)).mono ?_
  rintro e w5 ⟨nv, rfl, hN5, hB5⟩
  have HN5 : Hid (NamV w5 (g + 3) nv ns) := hid (by have h9 := hN5; rw [HY4.out] at h9; exact h9)
  have HV5 := hid (HV4.out.below hB5)
  have HR5 := hid (HR4.out.below hB5)
  have HO5 := hid (HO4.out.below hB5)
  have HW5 := hid (HW4.out.trans (hB5.mono HW4.out.size))
  clear hN5 hB5 v7 HV4 HR4 HO4 HW4
  obtain ⟨pn, cn, hnv⟩ := HN5.out.forms
  have HNV := hid hnv
  have n1 : nv.oneCell' = true := by rw [hnv]; rfl
  subst hnv
  have k7 := HO5.out.cell 7 _ rfl
  have f7 := HO5.out.free 7
  have k6 := HO5.out.cell 6 _ rfl
  have f6 := HO5.out.free 6
  go_upto_region 4 with fail
  have HI7 : Hid (CopI w ((w5.setCell ⟨g + 2, 7, none⟩ (.slice pn ns.length cn)).setCell ⟨g + 2, 6, none⟩ (.slice none 0 0)) g 0 R1 (.slice none 0 0) (.slice pn ns.length cn) [] ns) := by
   have hlo := HG0.out
   have ha : Apart (fun k => k = g + 2) w5 ((w5.setCell ⟨g + 2, 7, none⟩ (.slice pn ns.length cn)).setCell ⟨g + 2, 6, none⟩ (.slice none 0 0)) := (Apart.set (S := fun k => k = g + 2) w5 (a := ⟨g + 2, 7, none⟩) rfl _).trans (Apart.set (S := fun k => k = g + 2) _ (a := ⟨g + 2, 6, none⟩) rfl _) (fun _ _ h => h)
   refine hid ⟨HW5.out.trans (ha.below HW5.out.size (fun i hi e => by omega)), HV5.out.apart ha (by omega), HR5.out.apart ha (by omega), ?_, JsV.nil _ _ _, HN5.out.apart ha (fun k hk _ e => by omega), hlo⟩
   have h9 := (HO5.out.set 7 (.slice pn ns.length cn) (by simp [headC])).set 6 (.slice none 0 0) (by simp [headC])
   rw [show R1.1 = J.mk k b n t l ns from HR1.out]
   exact h9
  generalize ((w5.setCell ⟨g + 2, 7, none⟩ (.slice pn ns.length cn)).setCell ⟨g + 2, 6, none⟩ (.slice none 0 0)) = w7 at *
  clear k7 f7 k6 f6 HN5 HV5 HR5 HO5 HW5 HNV n1 HY4
  go_upto_if 14 with fail
  go_cut [] from 14 to 17 (fun wc => CopI w wc g 0 R1 (.slice none 0 0) (.slice pn ns.length cn) [] (cpN so ns))
  case first =>
   cases so with
   | false =>
    go_wp2_with fail
    go_meet
    exact HI7.out
   | true =>
    have o7 : _ = some (Value.slice pn ns.length cn) := HI7.out.out.cell 7 _ rfl
    go_wp2_with fail
    refine (sort_calls HI7.out.nm (by omega)).mono ?_
    rintro e w8 ⟨rfl, hN8, hgr⟩
    have HI8 := hid (HI7.out.sorted hN8 hgr)
    clear hN8 hgr
    go_wp2_with fail
    go_meet
    exact HI8.out
  have HI8 := hid hcut
  clear hcut HI7
  have HMS := hid (cpN_len so ns)
  have v6 : _ = some (Value.slice p1 l.length c1) := (HCC.out _ _ HI8.out.v).cell 6 _ rfl
  go_wp2_with fail
  clear v6
  go_loopg [21] l.length (fun kk s21 wr => ∃ (i x : Nat) (lv : Value) (rs : List JR), kk = l.length - i ∧ i ≤ l.length ∧ s21 = .int .i64 (i : Int) ∧ CopI w wr g x R1 lv (.slice pn ns.length cn) rs (cpN so ns) ∧ rs.map (·.1) = (cpL so k l ns).take i ∧ rs.length = i)
  case atStart => exact ⟨0, 0, _, [], rfl, Nat.zero_le _, rfl, HI8.out, by simp, rfl⟩
  obtain ⟨i, x0, lv, rs, hki, hi, rfl, hI, hrs, hrl⟩ := hrel
  have Hki := hid hki
  have HI := hid hI
  have HRS := hid hrs
  obtain ⟨pl, cl, rfl⟩ := hI.js.forms
  have HRL := hid hrl
  clear hki hI hrs hrl HI8
  by_cases hlt : i < l.length
  ·
   have hlti : (i : Int) < (l.length : Int) := by omega
   obtain ⟨x, hx⟩ : ∃ x, l[i]? = some x := ⟨_, List.getElem?_eq_getElem hlt⟩
   obtain ⟨gl, fl, rfl, _, hgl, hcs⟩ := HL.out (by omega)
   have HAT := hid (cp_at (so := so) HG.out hlt)
   have HBW : Hid (Below w0.heap.size w0 wr) := hid (HB.out.trans (HI.out.be.mono HB.out.size))
   have hra : ∀ j y, l[j]? = some y → ∀ W, Below w0.heap.size w0 W → W.rangeAt gl (fl + j * 8) (jcells (y, xs j)) := fun j y hy W hW c v hc => by
    have hc8 : c < 8 := (List.getElem?_eq_some_iff.1 hc).1
    rw [hW.cell (p := ⟨gl, fl + j * 8 + c, none⟩) hgl, hcs j y hy c hc8]; exact hc
   have HRA := hid hra
   have hra0 := hra i x hx wr HBW.out
   have HSJ := hid (HJS.out i x hx).slJ
   have HX := hid hx
   clear hra hcs
   go_upto_region 8 with fail
   go_upto_region 9 with (first | refine wpList_loadMd rfl _ rfl (x, xs i) hra0 rfl ?_ | (refine wpList_allocJ rfl rfl ?_; intro w8 hBx) | (refine wpList_storeJ rfl _ _ rfl rfl hBx.row rfl (x, xs i) HSJ.out rfl rfl ?_; intro w9 hSx))
   have hgr3 : g + 3 ≤ wr.heap.size := by have h9 := HI.out.out.lt; omega
   have hl9 : ∀ k, (Value.slice pl rs.length cl).ownBlock = some k → k < wr.heap.size := fun k hk => (HI.out.js.lt hk).2
   have hn9 : ∀ k, (Value.slice pn ns.length cn).ownBlock = some k → k < wr.heap.size := fun k hk => (World.ownsRow.lt HI.out.nm k hk).2
   have HI9 := hid (((HI.out.re (x' := wr.heap.size) (Nat.le_refl _)).below hBx.be).set hSx.apart hgr3 (fun e => by have := hl9 _ e; omega) (fun e => by have := hn9 _ e; omega))
   have HX9 := hid hSx.row
   have hy9 : w9.heap.size = wr.heap.size + 1 := by have h1 := hBx.size; have h2 := hSx.size; omega
   obtain ⟨g9, hg9⟩ : ∃ g, wr.heap.size = g := ⟨_, rfl⟩
   rw [hg9] at HI9 HX9 hy9 hl9 hn9 hgr3 ⊢
   have HQ9 := hid (And.intro hy9 (And.intro hgr3 (And.intro hl9 hn9)))
   clear hBx hSx hg9 HI HBW hra0 hy9 hgr3 hl9 hn9
   obtain ⟨j, hj⟩ : ∃ j, cpX so k ns i = j := ⟨_, rfl⟩
   have HJ := hid hj
   rw [hj] at HAT
   clear hj
   obtain ⟨y, hy⟩ : ∃ y, l[j]? = some y := ⟨_, List.getElem?_eq_getElem HAT.out.1⟩
   have HY := hid hy
   have hsx := szL_in hy
   have HGY := hid (good_in HG.out hy)
   have HSY := hid (HJS.out j y hy).slJ
   have HTK : Hid ((cpL so k l ns).take (i + 1) = (cpL so k l ns).take i ++ [cpJ so y]) := hid (by rw [List.take_add_one, HAT.out.2.1]; rw [List.getD_eq_getElem?_getD, hy]; rfl)
   have HXJ : Hid (∀ (so : Bool) (W : World), Below w0.heap.size w0 W → goodJ y = true → szJ y ≤ 100000000 → Calls Tryz.prog 58 #[jval (y, xs j), .bool so] W (CopTo W (cpJ so y))) := hid (HIH.out j y hy)
   clear hy
   have v0 : _ = some (Value.int .i64 k) := (HCC.out _ _ HI9.out.v).cell 0 _ rfl
   go_upto_if 28 with fail
   go_cut [] from 28 to 40 (fun wc => CopI w wc g g9 R1 (.slice pl rs.length cl) (.slice pn ns.length cn) rs (cpN so ns) ∧ RowAt wc g9 (jcells (y, xs j)) ∧ wc.heap.size = g9 + 1)
   case first =>
    by_cases hk5 : k = 5
    rotate_left
    ·
     have n5 : ((k : Int) == 5) = false := by rw [beq_eq_false_iff_ne]; exact hk5
     have hji : j = i := by have h9 := HJ.out; unfold cpX at h9; rw [if_neg hk5] at h9; exact h9.symm
     have hyx : y = x := by have h8 := HY.out; rw [hji] at h8; have h9 := HX.out; rw [h8] at h9; exact Option.some.inj h9
     go_wp2_with fail
     go_meet
     exact ⟨HI9.out, by rw [hyx, hji]; exact HX9.out, HQ9.out.1⟩
    subst hk5
    obtain ⟨s, hs⟩ : ∃ s, (cpN so ns).getD i [] = s := ⟨_, rfl⟩
    have hjx : ns.idxOf s = j := by have h9 := HJ.out; unfold cpX at h9; rw [if_pos rfl, hs] at h9; exact h9
    have hsm : s ∈ ns := by have h9 := HAT.out.2.2 rfl; rw [hs] at h9; exact h9
    have hil : i < (cpN so ns).length := by rw [HMS.out, (cp_len (so := so) HG.out).2 rfl |>.1]; exact hlt
    have hili : (i : Int) < (ns.length : Int) := by have := HMS.out; omega
    have hjli : (j : Int) < (l.length : Int) := by have := HAT.out.1; omega
    have HJX := hid (And.intro hjx hsm)
    clear hjx hsm
    have hns9 := HI9.out.nm.s
    obtain ⟨pm, cm, hpm, _, _, hcm⟩ := hns9
    rw [HMS.out] at hpm hcm
    obtain ⟨gm, om, rfl, hgm3, hgm, hsc⟩ := hcm (by have := HMS.out; omega)
    cases hpm
    have hss : (cpN so ns)[i]? = some s := by rw [List.getElem?_eq_getElem hil, ← hs, List.getD_eq_getElem?_getD, List.getElem?_eq_getElem hil]; rfl
    have c6 : _ = some (Value.slice (some ⟨gl, fl, none⟩) l.length c1) := (HCC.out _ _ HI9.out.v).cell 6 _ rfl
    have c7 : _ = some (Value.slice q1 ns.length e1) := (HCC.out _ _ HI9.out.v).cell 7 _ rfl
    have o7 : _ = some (Value.slice (some ⟨gm, om, none⟩) ns.length cn) := HI9.out.out.cell 7 _ rfl
    have s0 := hsc i s hss
    have mkS : ∀ wq, Apart (fun k => k = g9) w9 wq → (fun wq => wq.cell? ⟨g, 6, none⟩ = some (Value.slice (some ⟨gl, fl, none⟩) l.length c1) ∧ wq.cell? ⟨g, 7, none⟩ = some (Value.slice q1 ns.length e1) ∧ wq.cell? ⟨g + 2, 7, none⟩ = some (Value.slice (some ⟨gm, om, none⟩) ns.length cn) ∧ wq.cell? ⟨gm, om + i, none⟩ = some (Value.string ⟨s.toArray⟩) ∧ Apart (fun k => k = g9) w9 wq) wq := fun wq ha => by
     have hq := HQ9.out
     have hgl9 : g < w9.heap.size ∧ g + 2 < w9.heap.size := by omega
     have hgmn : gm ≠ g9 := fun e => by have := hq.2.2.2 gm rfl; omega
     exact ⟨(ha.cell (a := ⟨g, 6, none⟩) hgl9.1 (by show ¬ g = g9; omega)).trans c6, (ha.cell (a := ⟨g, 7, none⟩) hgl9.1 (by show ¬ g = g9; omega)).trans c7, (ha.cell (a := ⟨g + 2, 7, none⟩) hgl9.2 (by show ¬ g + 2 = g9; omega)).trans o7, (ha.cell (a := ⟨gm, om + i, none⟩) hgm hgmn).trans s0, ha⟩
    have hS0 := mkS w9.drew (Apart.ofBelow (S := fun k => k = g9) (Below.refl _ _).drew)
    have HMK := hid mkS
    have HBQ : Hid (∀ wq, Apart (fun k => k = g9) w9 wq → Below w0.heap.size w0 wq) := hid (fun wq ha => by
     have h1 := HB.out.trans (HI9.out.be.mono HB.out.size)
     exact h1.trans (ha.below h1.size (fun i hi e => by have h2 := HQ9.out; have h3 := HG0.out; have h4 := HB.out.size; omega)))
    clear mkS c6 c7 o7 s0 hsc hss hs v0
    go_upto_region 10 with fail
    have HXD : Hid (RowAt w9.drew g9 (jcells (x, xs i))) := hid (HX9.out.below (Below.refl _ _).drew)
    refine wp_region_held_drew (S := (fun wq => wq.cell? ⟨g, 6, none⟩ = some (Value.slice (some ⟨gl, fl, none⟩) l.length c1) ∧ wq.cell? ⟨g, 7, none⟩ = some (Value.slice q1 ns.length e1) ∧ wq.cell? ⟨g + 2, 7, none⟩ = some (Value.slice (some ⟨gm, om, none⟩) ns.length cn) ∧ wq.cell? ⟨gm, om + i, none⟩ = some (Value.string ⟨s.toArray⟩) ∧ Apart (fun k => k = g9) w9 wq)) (by kernel_rfl) hS0 (fun hHeld0 => ?_)
    obtain ⟨wd, hwd⟩ : ∃ wd, w9.drew = wd := ⟨_, rfl⟩
    have HWD : Hid (Apart (fun k => k = g9) w9 wd) := hid (by rw [← hwd]; exact Apart.ofBelow (S := fun k => k = g9) (Below.refl _ _).drew)
    have HID : Hid (CopI w wd g g9 R1 (.slice pl rs.length cl) (.slice (some ⟨gm, om, none⟩) ns.length cn) rs (cpN so ns)) := hid (by rw [← hwd]; exact HI9.out.below (Below.refl _ _).drew)
    have HZD : Hid (wd.heap.size = g9 + 1) := hid (by rw [← hwd]; exact HQ9.out.1)
    rw [hwd] at HXD hHeld0 ⊢
    have HX9D : Hid (∃ l8, RowAt wd g9 l8 ∧ l8.length = 8) := hid ⟨_, HXD.out, rfl⟩
    clear hwd
    refine held_ta 0 hHeld0 ?_
    refine held_ta 1 hHeld0 ?_
    refine held_ta 2 hHeld0 ?_
    refine held_ta 3 hHeld0 ?_
    refine held_ta 4 hHeld0 ?_
    refine held_ta 5 hHeld0 ?_
    refine held_ta 6 hHeld0 ?_
    refine held_ta 7 hHeld0 ?_
    refine held_ta 8 hHeld0 ?_
    refine held_st 9 rfl (fun K hK => ?_)
    go_simp
    refine (same (index_calls (HN0.out.below (HBQ.out wd HWD.out)) (by omega) s)).mono ?_
    rintro ez wz ⟨rfl, rfl⟩
    rw [if_pos HJX.out.2, HJX.out.1]
    refine hK.out _ _ (HMK.out _ HWD.out) (fun hHeld1 => ?_)
    clear hK K hHeld0
    refine held_ta 10 hHeld1 ?_
    refine held_tv 11 (jval (y, xs j)) rfl (fun wq hSq => exec_load8 _ rfl rfl (y, xs j) (HRA.out j y HY.out wq (HBQ.out wq hSq.2.2.2.2))) hHeld1 ?_
    refine held_st 12 rfl (fun K hK => ?_)
    have hx9d : ∃ l8, RowAt wd g9 l8 ∧ l8.length = 8 := HX9D.out
    obtain ⟨l8, hl8, hl8n⟩ := hx9d
    refine oper_storeJ _ _ rfl rfl hl8 hl8n (y, xs j) HSY.out rfl rfl ?_
    intro wS hSxS
    refine hK.out _ _ (HMK.out wS (HWD.out.trans hSxS.apart (fun _ _ h => h))) (fun hHeld2 => ?_)
    clear hK K hHeld1
    refine wpAnyH_done (by kernel_rfl) ?_ _
    clear hHeld2
    go_wp2_with fail
    go_meet
    exact ⟨HID.out.set hSxS.apart HQ9.out.2.1 (fun e => by have := HQ9.out.2.2.1 _ e; omega) (fun e => by have := HQ9.out.2.2.2 _ e; omega), hSxS.row, by rw [hSxS.size]; exact HZD.out⟩
   obtain ⟨hI10, hX10, hz10⟩ := hcut
   have HI10 := hid hI10
   have HX10 := hid hX10
   have HZ10 := hid hz10
   clear hI10 hX10 hz10 HI9 HX9 v0
   have HID := hid (HI10.out.below (Below.refl _ _).drew)
   have HZD : Hid (wc.drew.heap.size = g9 + 1) := HZ10
   have HX11 := hid (HX10.out.below (Below.refl wc.heap.size wc).drew)
   have hS0 : (fun wq => RowAt wq g9 (jcells (y, xs j)) ∧ wq.cell? ⟨g + 2, 6, none⟩ = some (Value.slice pl rs.length cl)) wc.drew := ⟨HX11.out, HID.out.out.cell 6 _ rfl⟩
   go_upto_region 11 with fail
   refine wp_region_heldT [8] (S := (fun wq => RowAt wq g9 (jcells (y, xs j)) ∧ wq.cell? ⟨g + 2, 6, none⟩ = some (Value.slice pl rs.length cl))) (by kernel_rfl) hS0 (fun hHeld0 => ?_)
   generalize wc.drew = wd at *
   refine heldT_ta 0 hHeld0 ?_
   refine heldT_ta 1 hHeld0 ?_
   refine heldT_tv 2 (jval (y, xs j)) rfl (fun wq hSq => exec_loadJ _ rfl rfl (y, xs j) hSq.1) hHeld0 ?_
   refine heldT_ta 3 hHeld0 ?_
   refine heldT_step 4 rfl (fun K hK => ?_)
   go_simp
   refine (HXJ.out so wd (HB.out.trans (HID.out.be.mono HB.out.size)) HGY.out (by have := HSZ.out; omega)).mono ?_
   rintro ez wA ⟨lvA, nvA, rfl, hJA, hBA⟩
   have HIA := hid (HID.out.below hBA)
   have HXA := hid (HIA.out.fresh (B1 := wd.heap.size) hJA (by have := HZD.out; omega) (fun k hk => (HID.out.js.lt hk).2) (fun k hk => (World.ownsRow.lt HID.out.nm k hk).2) (by have := HZD.out; have := HQ9.out.2.1; omega))
   have HSA := hid hJA.slJ
   have HX12 := hid (HX11.out.below hBA)
   clear hJA hBA
   refine hK.out _ _ ⟨HX12.out, HIA.out.out.cell 6 _ rfl⟩ (fun hHeld1 => ?_)
   clear hK K hHeld0
   refine heldT_step 5 rfl (fun K hK => ?_)
   refine oper_buildJ _ rfl (cpJ so y, lvA, nvA) rfl ?_
   intro wB hBxB
   have HIB := hid (HIA.out.below hBxB.be)
   have HXB := hid (HXA.out.bel hBxB.be)
   have HX13 := hid (HX12.out.below hBxB.be)
   have HRB := hid hBxB.row
   have HSB : Hid (g + 3 ≤ wB.heap.size) := hid (by have := HIB.out.out.lt; have := hBxB.size; omega)
   clear hBxB
   refine hK.out _ _ ⟨HX13.out, HIB.out.out.cell 6 _ rfl⟩ (fun hHeld2 => ?_)
   clear hK K hHeld1
   refine heldT_step 6 rfl (fun K hK => ?_)
   refine oper_append_json _ _ rfl (g + 3) (SepC g g9 (.slice pn ns.length cn)) (.slice pl rs.length cl) rs rfl HIB.out.js (cpJ so y, lvA, nvA) HXB.out wA.heap.size 1 rfl ?hcs0 ?hlen0 HSB.out (fun vC wC h1 h2 h3 => ?_)
   case hcs0 => intro c hc; exact (HRB.out.cell c _ (List.getElem?_eq_getElem (by exact hc))).trans (List.getElem?_eq_getElem (by exact hc)).symm
   case hlen0 => have := HRL.out; omega
   obtain ⟨pv, cv, hvC⟩ := h1.forms
   rw [List.length_append, List.length_singleton] at hvC
   subst hvC
   have HJC := hid h1
   have HIC := hid (HIB.out.push h1 h2)
   have haC : Apart (fun k => (Value.slice pl rs.length cl).ownBlock = some k) wB wC := Apart.ofGrown h2 (fun k hk => hk)
   have hltC : ∀ k, (Value.slice pl rs.length cl).ownBlock = some k → g + 3 ≤ k ∧ k < g9 := fun k hk => ⟨(HIB.out.js.lt hk).1, HQ9.out.2.2.1 k hk⟩
   have HOC := hid (HIB.out.out.apart haC (fun e => by have := (hltC _ e).1; omega))
   have HX14 := hid (HX13.out.apart haC (fun e => by have := (hltC _ e).2; omega))
   clear h1 h2 h3 haC hltC
   have k6 := HOC.out.cell 6 _ rfl
   have f6 := HOC.out.free 6
   try simp only [Act.put, List.setIfInBounds_toArray, List.set_cons_zero, List.set_cons_succ]
   refine hK.out _ _ ⟨HX14.out, k6⟩ (fun hHeld3 => ?_)
   clear hK K hHeld2
   refine heldT_ta 7 hHeld3 ?_
   refine heldT_late ?_
   clear hHeld3
   have hHeld4 : True := trivial
   refine held_st 8 rfl (fun K hK => ?_)
   go_simp
   refine hK.out _ _ trivial (fun hHeld5 => ?_)
   clear hK K hHeld4
   refine wpAnyH_done (by kernel_rfl) ?_ _
   clear hHeld5
   go_wp2_with fail
   go_roundg (l.length - (i + 1))
   case measure => have := Hki.out; omega
   exact ⟨i + 1, g9, _, rs ++ [(cpJ so y, lvA, nvA)], rfl, by omega, by go_num, HIC.out, by rw [List.map_append, HRS.out, HTK.out]; rfl, by rw [List.length_append, HRL.out]; rfl⟩
  have hlti : ¬ (i : Int) < (l.length : Int) := by omega
  obtain rfl : i = l.length := by omega
  have hre : rs.map (·.1) = cpL so k l ns := by rw [HRS.out]; exact List.take_of_length_le (by rw [(cp_len (so := so) HG.out).1]; exact Nat.le_refl _)
  have HDN : Hid (JV wr (fun k => g + 3 ≤ k) (CJ, .slice pl rs.length cl, .slice pn ns.length cn)) := hid (by
   have h9 := HI.out.done
   rw [hre, show R1.1 = J.mk k b n t l ns from HR1.out] at h9
   rw [HCJ.out]
   exact h9)
  have HOU : Hid (RowAt wr (g + 2) (jcells (CJ, .slice pl rs.length cl, .slice pn ns.length cn))) := hid (by
   have h9 := HI.out.out
   rw [show R1.1 = J.mk k b n t l ns from HR1.out] at h9
   rw [HCJ.out]
   exact h9)
  clear hre
  go_wp2_with (first | with_reducible refine stop_ret ?_ | refine wpList_loadJ rfl _ rfl (CJ, .slice pl rs.length cl, .slice pn ns.length cn) HOU.out rfl ?_ | (refine wpList_storeJ rfl _ _ rfl rfl HI.out.res rfl (CJ, .slice pl rs.length cl, .slice pn ns.length cn) ⟨rfl, rfl⟩ rfl rfl ?_; intro wS hSx))
  refine hid ?_
  refine bodyPost_retJ (CJ, .slice pl rs.length cl, .slice pn ns.length cn) rfl rfl rfl hSx.row ?_
  exact ⟨_, _, rfl, (HDN.out.apart hSx.apart (fun k hk _ e => by omega)).mono (fun k _ hk => by have := HG0.out; omega), hSx.below HI.out.be (by have := HG0.out; omega) HI.out.be.size⟩
end Go.Proofs.YtfclfaidmipjpaaGreatDoor
