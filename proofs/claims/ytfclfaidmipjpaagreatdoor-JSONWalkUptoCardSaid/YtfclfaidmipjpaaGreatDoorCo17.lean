/- Texts of this claim, joined: Trk, Tgl. -/
import Derived.Test.YtfclfaidmipjpaaGreatDoorCo03
import Derived.Test.YtfclfaidmipjpaaGreatDoorCo16
namespace Go.Proofs.YtfclfaidmipjpaaGreatDoor
set_option maxRecDepth 100000
set_option maxHeartbeats 20000000
open Go.Lib (hid)
open Go.RowKit
def mapV (c : UInt8) : Int := if c = 48 then 0 else if c = 49 then 1 else if c = 126 then 2 else 3
structure GRAt (w : World) (gr gt : Nat) : Prop where
 pri : w.cell? ⟨gr, 1, none⟩ = some (.int .i64 0)
 pre : w.cell? ⟨gr, 2, none⟩ = some (.string ⟨#[]⟩)
 tab : w.cell? ⟨gr, 4, none⟩ = some (.slice (some ⟨gt, 0, none⟩) 3 3)
 size : w.cell? ⟨gr, 5, none⟩ = some (.int .i64 3)
 map : ∀ c : UInt8, w.cell? ⟨gr, 6 + c.toNat, none⟩ = some (.int .u8 (mapV c))
 lt : gr < w.heap.size
theorem GRAt.apart {S : Nat → Prop} {w w' : World} {gr gt : Nat} (h : GRAt w gr gt) (ha : Apart S w w') (hn : ¬ S gr) : GRAt w' gr gt :=
 ⟨(ha.cell (a := ⟨gr, 1, none⟩) h.lt hn).trans h.pri, (ha.cell (a := ⟨gr, 2, none⟩) h.lt hn).trans h.pre, (ha.cell (a := ⟨gr, 4, none⟩) h.lt hn).trans h.tab, (ha.cell (a := ⟨gr, 5, none⟩) h.lt hn).trans h.size, fun c => (ha.cell (a := ⟨gr, 6 + c.toNat, none⟩) h.lt hn).trans (h.map c), Nat.lt_of_lt_of_le h.lt ha.size⟩
theorem GRAt.below {w w' : World} {gr gt : Nat} (h : GRAt w gr gt) (hb : Below w.heap.size w w') : GRAt w' gr gt := h.apart (S := fun _ => False) (.ofBelow hb) (fun h => h)
theorem GRAt.mapAt {w : World} {gr gt : Nat} (h : GRAt w gr gt) : MapAt w gr := ⟨h.size, h.map 48, h.map 49, h.map 126, h.lt⟩
theorem trie_root1 (gr gt : Nat) (val : List UInt8) (w : World) (hg : GRAt w gr gt) (hT : RowAt w gt [.pointer none, .pointer none, .pointer none]) (hne : gr ≠ gt) :
  Calls Tryz.prog 211 #[.pointer (some ⟨gr, 0, none⟩), .string ⟨#[126, 48]⟩, .string ⟨val.toArray⟩, .int .i64 4, .pointer (some ⟨gr, 0, none⟩)] w fun e w' => e = .returned (.tuple #[]) ∧ ∃ gA gB, RowAt w' gt [.pointer none, .pointer none, .pointer (some ⟨gA, 0, none⟩)] ∧ RowAt w' gA (nodeR [] 0 [48] (some ⟨gB, 0, none⟩) (.slice none 0 0)) ∧ RowAt w' gB (nodeR val 4 [] none (.slice none 0 0)) ∧ Apart (fun k => k = gt) w w' ∧ w.heap.size ≤ gA ∧ w.heap.size ≤ gB := by
 have HG := hid hg
 have HT := hid hT
 have c2 := hg.pre
 have c4 := hg.tab
 have m126 : w.cell? ⟨gr, 132, none⟩ = some (.int .u8 2) := hg.map 126
 clear hg hT
 have gx : ∀ h, (⟨#[126, 48]⟩ : ByteArray)[0]'h = 126 := fun _ => rfl
 have g126 : (126 : UInt8).toNat = 126 := rfl
 have hex : (⟨#[126, 48]⟩ : ByteArray).extract 1 2 = ⟨#[48]⟩ := rfl
 go_enter Tryz.func211, Tryz.ntmps211
 go_wp2_with fail
 go_quiet (fail)
 have HG1 := hid (HG.out.below (below_drewN (Below.refl _ _) nq))
 have HT1 := hid (HT.out.below (below_drewN (Below.refl _ _) nq))
 have HA1 : Hid (Below w.heap.size w (w.drewN nq)) := hid (below_drewN (Below.refl _ _) nq)
 generalize w.drewN nq = w1 at *
 clear HG HT c2 c4 m126
 have c4 := HG1.out.tab
 have t2 : _ = some (Value.pointer none) := HT1.out.cell 2 _ rfl
 have f2 := HT1.out.free 2
 have hlt := HT1.out.lt
 have hlg := HG1.out.lt
 go_upto_region 31 with fail
 obtain ⟨gA, hgA⟩ : ∃ x, w1.heap.size = x := ⟨_, rfl⟩
 have hz : (w1.setCell ⟨gt, 2, none⟩ (.pointer (some ⟨gA, 0, none⟩))).heap.size = gA := by simp [hgA]
 have hr := (HT1.out.set 2 (.pointer (some ⟨gA, 0, none⟩)) (by simp)).alloc (.cells #[.string ⟨#[]⟩, .int .i64 0, .string ⟨#[]⟩, .pointer none, .slice none 0 0] 248)
 have hn := RowAt.new (w1.setCell ⟨gt, 2, none⟩ (.pointer (some ⟨gA, 0, none⟩))) #[.string ⟨#[]⟩, .int .i64 0, .string ⟨#[]⟩, .pointer none, .slice none 0 0] 248
 have ha : Apart (fun k => k = gt) w1 ((w1.setCell ⟨gt, 2, none⟩ (.pointer (some ⟨gA, 0, none⟩))).alloc (.cells #[.string ⟨#[]⟩, .int .i64 0, .string ⟨#[]⟩, .pointer none, .slice none 0 0] 248)) := (Apart.set (S := fun k => k = gt) w1 (a := ⟨gt, 2, none⟩) rfl _).trans (Apart.ofBelow (S := fun k => k = gt) ((Below.refl _ _).alloc (Nat.le_refl _) _)) (fun _ _ h => h)
 have hs2 : ((w1.setCell ⟨gt, 2, none⟩ (.pointer (some ⟨gA, 0, none⟩))).alloc (.cells #[.string ⟨#[]⟩, .int .i64 0, .string ⟨#[]⟩, .pointer none, .slice none 0 0] 248)).heap.size = gA + 1 := by simp [hgA]
 rw [hz] at hn
 rw [hgA] at hlt hlg ⊢
 have HT2 := hid hr
 have HX2 := hid hn
 have HG2 := hid (HG1.out.apart ha hne)
 have HA2 : Hid (Apart (fun k => k = gt) w ((w1.setCell ⟨gt, 2, none⟩ (.pointer (some ⟨gA, 0, none⟩))).alloc (.cells #[.string ⟨#[]⟩, .int .i64 0, .string ⟨#[]⟩, .pointer none, .slice none 0 0] 248))) := hid ((Apart.ofBelow (S := fun k => k = gt) HA1.out).trans ha (fun _ _ h => h))
 have HZ : Hid (gt < gA ∧ gr < gA ∧ w.heap.size ≤ gA ∧ ((w1.setCell ⟨gt, 2, none⟩ (.pointer (some ⟨gA, 0, none⟩))).alloc (.cells #[.string ⟨#[]⟩, .int .i64 0, .string ⟨#[]⟩, .pointer none, .slice none 0 0] 248)).heap.size = gA + 1) := hid ⟨hlt, hlg, by rw [← hgA]; exact HA1.out.size, hs2⟩
 clear hr hn ha hs2 hz hlt hlg hgA HT1 HG1 HA1 c4 t2 f2
 generalize ((w1.setCell ⟨gt, 2, none⟩ (.pointer (some ⟨gA, 0, none⟩))).alloc (.cells #[.string ⟨#[]⟩, .int .i64 0, .string ⟨#[]⟩, .pointer none, .slice none 0 0] 248)) = w2 at *
 have HQ : Hid (Below w2.heap.size w2 w2.drew) := hid (Below.refl _ _).drew
 have HT3 := hid (HT2.out.below HQ.out)
 have HG3 := hid (HG2.out.below HQ.out)
 have HX3 := hid (HX2.out.below HQ.out)
 have HZQ : Hid (w2.drew.heap.size = w2.heap.size) := hid rfl
 have hS0 : (fun wq => wq.cell? ⟨gr, 4, none⟩ = some (Value.slice (some ⟨gt, 0, none⟩) 3 3) ∧ wq.cell? ⟨gt, 2, none⟩ = some (Value.pointer (some ⟨gA, 0, none⟩))) w2.drew := ⟨HG3.out.tab, HT3.out.cell 2 _ rfl⟩
 refine wp_region_held_drew (S := (fun wq => wq.cell? ⟨gr, 4, none⟩ = some (Value.slice (some ⟨gt, 0, none⟩) 3 3) ∧ wq.cell? ⟨gt, 2, none⟩ = some (Value.pointer (some ⟨gA, 0, none⟩)))) (by kernel_rfl) hS0 (fun hHeld0 => ?_)
 generalize w2.drew = wd at *
 refine held_ta 0 hHeld0 ?_
 refine held_ta 1 hHeld0 ?_
 refine held_ta 2 hHeld0 ?_
 refine held_ta 3 hHeld0 ?_
 refine held_ta 4 hHeld0 ?_
 refine held_ta 5 hHeld0 ?_
 refine held_ta 6 hHeld0 ?_
 refine held_ta 7 hHeld0 ?_
 refine held_ta 8 hHeld0 ?_
 refine held_ta 9 hHeld0 ?_
 refine held_ta 10 hHeld0 ?_
 refine held_ta 11 hHeld0 ?_
 refine held_st 12 rfl (fun K hK => ?_)
 go_simp
 refine (trie_leaf gA 48 val 4 _ wd HX3.out).mono ?_
 rintro ez w4 ⟨rfl, hx4, hb4, ha4, hz4⟩
 have hzz := HZ.out
 have hzq := HZQ.out
 have HX4 := hid hx4
 have HB4 := hid hb4
 have HA4 := hid ha4
 have HT4 := hid (HT3.out.apart ha4 (by omega))
 have HG4 := hid (HG3.out.apart ha4 (by omega))
 clear hx4 hb4 ha4 hz4 hzz hzq
 refine hK.out _ _ ⟨HG4.out.tab, HT4.out.cell 2 _ rfl⟩ (fun hHeld1 => ?_)
 clear hK K hHeld0
 refine wpAnyH_done (by kernel_rfl) ?_ _
 clear hHeld1
 go_wp2_with fail
 first | go_end0 | refine bodyPost_ret (results_none rfl _ _ _) rfl ?_
 have hzz := HZ.out
 have hzq := HZQ.out
 exact ⟨rfl, gA, HT4.out, _, HX4.out, HB4.out, (HA2.out.trans (Apart.ofBelow (S := fun k => k = gt) HQ.out) (fun _ _ h => h)).over HA4.out (by omega), by omega, by omega⟩
theorem trie_root2 (gr gt : Nat) (val : List UInt8) (w : World) (hg : GRAt w gr gt) (gA gB : Nat) (hT : RowAt w gt [.pointer none, .pointer none, .pointer (some ⟨gA, 0, none⟩)]) (hA : RowAt w gA (nodeR [] 0 [48] (some ⟨gB, 0, none⟩) (.slice none 0 0))) (hAr : gA ≠ gr) (hTA : ¬ gt = gA) :
  Calls Tryz.prog 211 #[.pointer (some ⟨gr, 0, none⟩), .string ⟨#[126, 49]⟩, .string ⟨val.toArray⟩, .int .i64 2, .pointer (some ⟨gr, 0, none⟩)] w fun e w' => e = .returned (.tuple #[]) ∧ ∃ gu gc, RowAt w' gA (nodeR [] 0 [] none (.slice (some ⟨gu, 0, none⟩) 3 3)) ∧ RowAt w' gu [.pointer (some ⟨gB, 0, none⟩), .pointer (some ⟨gc, 0, none⟩), .pointer none] ∧ RowAt w' gc (nodeR val 2 [] none (.slice none 0 0)) ∧ Apart (fun k => k = gA) w w' ∧ w.heap.size ≤ gu ∧ w.heap.size ≤ gc := by
 have HG := hid hg
 have HT := hid hT
 have c2 := hg.pre
 have c4 := hg.tab
 have m126 : w.cell? ⟨gr, 132, none⟩ = some (.int .u8 2) := hg.map 126
 clear hg hT
 have gx : ∀ h, (⟨#[126, 49]⟩ : ByteArray)[0]'h = 126 := fun _ => rfl
 have g126 : (126 : UInt8).toNat = 126 := rfl
 have hex : (⟨#[126, 49]⟩ : ByteArray).extract 1 2 = ⟨#[49]⟩ := rfl
 have HA := hid hA
 clear hA
 go_enter Tryz.func211, Tryz.ntmps211
 go_wp2_with fail
 go_quiet (fail)
 have HG1 := hid (HG.out.below (below_drewN (Below.refl _ _) nq))
 have HT1 := hid (HT.out.below (below_drewN (Below.refl _ _) nq))
 have HA1 : Hid (Below w.heap.size w (w.drewN nq)) := hid (below_drewN (Below.refl _ _) nq)
 have HX1 := hid (HA.out.below (below_drewN (Below.refl _ _) nq))
 clear HA
 generalize w.drewN nq = w1 at *
 clear HG HT c2 c4 m126
 have c4 := HG1.out.tab
 have t2 : _ = some (Value.pointer (some ⟨gA, 0, none⟩)) := HT1.out.cell 2 _ rfl
 go_upto_region 31 with fail
 have HT2 := HT1
 have HX2 := HX1
 have HG2 := HG1
 have HA2 := HA1
 obtain ⟨w2, hw2⟩ : ∃ W, w1 = W := ⟨_, rfl⟩
 subst hw2
 clear c4 t2 HT1 HX1 HG1 HA1
 have HQ : Hid (Below w1.heap.size w1 w1.drew) := hid (Below.refl _ _).drew
 have HT3 := hid (HT2.out.below HQ.out)
 have HG3 := hid (HG2.out.below HQ.out)
 have HX3 := hid (HX2.out.below HQ.out)
 have HZQ : Hid (w1.drew.heap.size = w1.heap.size) := hid rfl
 have hS0 : (fun wq => wq.cell? ⟨gr, 4, none⟩ = some (Value.slice (some ⟨gt, 0, none⟩) 3 3) ∧ wq.cell? ⟨gt, 2, none⟩ = some (Value.pointer (some ⟨gA, 0, none⟩))) w1.drew := ⟨HG3.out.tab, HT3.out.cell 2 _ rfl⟩
 refine wp_region_held_drew (S := (fun wq => wq.cell? ⟨gr, 4, none⟩ = some (Value.slice (some ⟨gt, 0, none⟩) 3 3) ∧ wq.cell? ⟨gt, 2, none⟩ = some (Value.pointer (some ⟨gA, 0, none⟩)))) (by kernel_rfl) hS0 (fun hHeld0 => ?_)
 generalize w1.drew = wd at *
 refine held_ta 0 hHeld0 ?_
 refine held_ta 1 hHeld0 ?_
 refine held_ta 2 hHeld0 ?_
 refine held_ta 3 hHeld0 ?_
 refine held_ta 4 hHeld0 ?_
 refine held_ta 5 hHeld0 ?_
 refine held_ta 6 hHeld0 ?_
 refine held_ta 7 hHeld0 ?_
 refine held_ta 8 hHeld0 ?_
 refine held_ta 9 hHeld0 ?_
 refine held_ta 10 hHeld0 ?_
 refine held_ta 11 hHeld0 ?_
 refine held_st 12 rfl (fun K hK => ?_)
 go_simp
 refine (trie_split gA gB gr val wd HX3.out HG3.out.mapAt hAr).mono ?_
 rintro ez w4 ⟨rfl, gu, gc, hx4, hu4, hc4, ha4, hg1, hg2⟩
 have HX4 := hid (And.intro hx4 (And.intro hu4 hc4))
 have HA4 := hid ha4
 have HZ4 := hid (And.intro hg1 hg2)
 have HT4 := hid (HT3.out.apart ha4 hTA)
 have HG4 := hid (HG3.out.apart ha4 (fun e => hAr e.symm))
 clear hx4 hu4 hc4 ha4 hg1 hg2
 refine hK.out _ _ ⟨HG4.out.tab, HT4.out.cell 2 _ rfl⟩ (fun hHeld1 => ?_)
 clear hK K hHeld0
 refine wpAnyH_done (by kernel_rfl) ?_ _
 clear hHeld1
 go_wp2_with fail
 first | go_end0 | refine bodyPost_ret (results_none rfl _ _ _) rfl ?_
 have h1 := HA2.out.size
 have h2 := HZQ.out
 have h4 := HZ4.out
 exact ⟨rfl, gu, gc, HX4.out.1, HX4.out.2.1, HX4.out.2.2, (Apart.ofBelow (S := fun k => k = gA) (HA2.out.trans (HQ.out.mono h1))).trans HA4.out (fun _ _ h => h), by omega, by omega⟩
open Go.RowKit
def rowG (tb : Value) (ts : Int) (m : List Int) : List Value := [.string ⟨#[]⟩, .int .i64 0, .string ⟨#[]⟩, .pointer none, tb, .int .i64 ts] ++ m.map (.int .u8)
theorem rowG_set (tb : Value) (ts : Int) (m : List Int) (c : Nat) (x : Int) : (rowG tb ts m).set (6 + c) (.int .u8 x) = rowG tb ts (m.set c x) := by
 unfold rowG
 rw [List.set_append_right _ _ (by simp), List.map_set]
 congr 2
 simp
theorem rowG_at (tb : Value) (ts : Int) (m : List Int) (c : Nat) (x : Int) (h : m[c]? = some x) : (rowG tb ts m)[6 + c]? = some (.int .u8 x) := by
 unfold rowG
 rw [List.getElem?_append_right (by simp)]
 simp [h]
theorem rowG_len (tb : Value) (ts : Int) (m : List Int) : (rowG tb ts m).length = 6 + m.length := by simp [rowG]; omega
def m0 : List Int := List.replicate 256 0
def m4 : List Int := (List.range 256).map fun i => if i = 48 ∨ i = 49 ∨ i = 126 then 1 else 0
def mF : List Int := (List.range 256).map fun i => mapV (UInt8.ofNat i)
theorem m4_eq : (((m0.set 126 1).set 48 1).set 126 1).set 49 1 = m4 := by decide +kernel
theorem m4_len : m4.length = 256 := by decide +kernel
theorem mF_len : mF.length = 256 := by decide +kernel
theorem m4_sum : m4.sum = 3 := by decide +kernel
def cntM (i : Nat) : Int := (m4.take i).sum
theorem m4_all : ((List.range 256).all fun i => (decide (m4.getD i 0 = 0) && decide (mF.getD i 0 = 3) || decide (m4.getD i 0 = 1) && decide (mF.getD i 0 = cntM i)) && decide (0 ≤ cntM i) && decide (cntM i ≤ 3) && decide (cntM (i + 1) = cntM i + m4.getD i 0)) = true := by decide +kernel
theorem m4_at (i : Nat) (h : i < 256) : ((m4.getD i 0 = 0 ∧ mF.getD i 0 = 3) ∨ (m4.getD i 0 = 1 ∧ mF.getD i 0 = cntM i)) ∧ 0 ≤ cntM i ∧ cntM i ≤ 3 ∧ cntM (i + 1) = cntM i + m4.getD i 0 := by
 have := List.all_eq_true.1 m4_all i (List.mem_range.2 h)
 simp only [Bool.and_eq_true, Bool.or_eq_true, decide_eq_true_eq] at this
 exact ⟨this.1.1.1, this.1.1.2, this.1.2, this.2⟩
def mixM (i : Nat) : List Int := mF.take i ++ m4.drop i
theorem mix_len (i : Nat) : (mixM i).length = 256 := by
 unfold mixM
 rw [List.length_append, List.length_take, List.length_drop, mF_len, m4_len]; omega
theorem mix_zero : mixM 0 = m4 := by simp [mixM]
theorem mix_end : mixM 256 = mF := by
 unfold mixM
 rw [List.take_of_length_le (by rw [mF_len]; omega), List.drop_eq_nil_of_le (by rw [m4_len]; omega), List.append_nil]
theorem mix_set (i : Nat) (h : i < 256) : (mixM i).set i (mF.getD i 0) = mixM (i + 1) := by
 have h1 : i < mF.length := by rw [mF_len]; exact h
 have h2 : i < m4.length := by rw [m4_len]; exact h
 unfold mixM
 rw [List.set_append_right _ _ (by rw [List.length_take]; omega), List.length_take, Nat.min_eq_left (by omega), Nat.sub_self, List.drop_eq_getElem_cons h2, List.set_cons_zero, List.take_succ_eq_append_getElem h1, List.append_assoc]
 simp [List.getD_eq_getElem?_getD, h1]
theorem Tryz.infoG : (Tryz.prog.info? 250).map (·.zero) = some (some (.agg (rowG (.slice none 0 0) 0 m0).toArray)) := by kernel_rfl
theorem run_allocG (w : World) : (Instr.alloc 250 true (.tuple #[])).run Tryz.prog w = .ok (.pointer (some ⟨w.heap.size, 0, none⟩)) (w.alloc (.cells (rowG (.slice none 0 0) 0 m0).toArray 250)) := by
 obtain ⟨i0, hi, hz⟩ := Option.map_eq_some_iff.1 Tryz.infoG
 have hzr : (zeroValue 250).run Tryz.prog w = .ok (.agg (rowG (.slice none 0 0) 0 m0).toArray) w := by
  unfold zeroValue
  simp [typeInfo, hi, hz]
 unfold Instr.alloc
 simp [hzr]
 rfl
theorem wpList_allocG {w : World} {ops : Array Oper} {rest : List Oper} {o : Oper} {a : Act} {Q : Exit → Act → World → Prop} (hgd : o.guard = none) (ho : o.op = .alloc 250)
  (hK : ∀ w', RowAt w' w.heap.size (rowG (.slice none 0 0) 0 m0) → Below w.heap.size w w' → w'.heap.size = w.heap.size + 1 → wpList Tryz.prog ops Q rest (a.put o.dst (.pointer (some ⟨w.heap.size, 0, none⟩))) w') : wpList Tryz.prog ops Q (o :: rest) a w := by
 refine wpList_plain hgd fun K hK' => ?_
 have hrun := run_allocG w
 unfold Oper.wp
 simp [execOp, ho, hrun, Oper.upon]
 exact hK' _ _ (hK _ (RowAt.new w (rowG (.slice none 0 0) 0 m0).toArray _) ((Below.refl _ _).alloc (Nat.le_refl _) _) (by simp))
theorem Tryz.info256 : (Tryz.prog.info? 100).map (·.size) = some 256 := by kernel_rfl
theorem row256 : (Tryz.prog.underlying 100).map TypeDesc.isRow = some true := by kernel_rfl
def arrM (m : List Int) : Value := .agg (m.map (Value.int .u8)).toArray
theorem wpList_load256 {w : World} {ops : Array Oper} {rest : List Oper} {o : Oper} {a : Act} {Q : Exit → Act → World → Prop} (hgd : o.guard = none) (x : Operand) (ho : o.op = .load 100 x)
  {g : Nat} {tb : Value} {ts : Int} {m : List Int} (hr : RowAt w g (rowG tb ts m)) (hm : m.length = 256) (hx : a.eval x = .pointer (some ⟨g, 6, none⟩)) (hK : wpList Tryz.prog ops Q rest (a.put o.dst (arrM m)) w) : wpList Tryz.prog ops Q (o :: rest) a w := by
 refine wpList_plain hgd fun K hK' => ?_
 have hrun : (loadVar 100 ⟨g, 6, none⟩).run Tryz.prog w = .ok (arrM m) w := by
  cases hq : Tryz.prog.underlying 100 with
  | none => have := row256; rw [hq] at this; cases this
  | some d =>
   have hd : d.isRow = true := by have := row256; rw [hq, Option.map_some, Option.some.injEq] at this; exact this
   exact run_loadVar_mid (P := Tryz.prog) w g 6 _ (m.map (Value.int .u8)) d (fun j v h => by
    rw [List.getElem?_map] at h
    cases hmj : m[j]? with
    | none => rw [hmj] at h; cases h
    | some x =>
     rw [hmj] at h
     cases h
     exact hr.cell _ _ (rowG_at tb ts m j x hmj)) hq hd (by rw [Tryz.info256, List.length_map, hm])
 unfold Oper.wp
 have hs : (Instr.sureAddr (.pointer (some ⟨g, 6, none⟩))).run Tryz.prog w = .ok ⟨g, 6, none⟩ w := rfl
 simp [execOp, ho, hx, Instr.loadAt, hs, hrun, Oper.upon]
 exact hK' _ _ hK
theorem idx256 (m : List Int) (hm : m.length = 256) (i : Nat) (hi : i < 256) (w : World) : (Instr.index 100 (arrM m) (.int .i64 (i : Int))).run Tryz.prog w = .ok (.int .u8 (m.getD i 0)) w := by
 have hs := Tryz.sizeOf5 w
 have h2 : m[i]? = some (m.getD i 0) := by
  rw [List.getD_eq_getElem?_getD, List.getElem?_eq_getElem (by omega)]; rfl
 unfold Instr.index
 simp only [List.getD_eq_getElem?_getD] at h2 ⊢
 simp [asIntOf, run_underlying Tryz.underlying100, arrM, hs, part]
 rw [if_pos hi, h2]
 rfl
end Go.Proofs.YtfclfaidmipjpaaGreatDoor
