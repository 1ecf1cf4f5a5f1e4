/- Texts of this claim, joined: Tur. -/
import Derived.Test.YtfclfaidmipjpaaGreatDoorCo13
import Derived.Test.YtfclfaidmipjpaaGreatDoorOt05
namespace Go.Proofs.YtfclfaidmipjpaaGreatDoor
set_option maxRecDepth 100000
set_option maxHeartbeats 20000000
open Go.RowKit
theorem oper_append_name {w : World} {o : Oper} {a : Act} {Q : Exit → Act → World → Prop} {K : Act → World → Prop} (s x : Operand)
  (ho : o.op = .call { callee := .builtin .append, args := #[s, x], argTypes := #[28, 28] })
  (B : Nat) (v : Value) (ns : List (List UInt8)) (hv : a.eval s = v) (hown : NamV w B v ns) (n : List UInt8)
  (hx : a.eval x = .slice (some ⟨w.heap.size, 0, none⟩) 1 1) (hlen : ns.length ≤ 100000001) (hbase : B ≤ w.heap.size)
  (hK : ∀ v' w', NamV w' B v' (ns ++ [n]) → (w.alloc (.cells #[.string ⟨n.toArray⟩] 9)).grownBy w' v.ownBlock → (∀ k, v'.ownBlock = some k → v.ownBlock = some k ∨ w.heap.size ≤ k) → K (a.put o.dst v') w') :
  Oper.wp Tryz.prog o a (w.alloc (.cells #[.string ⟨n.toArray⟩] 9)) K Q := by
 obtain ⟨v', w', hrun, h1, h2, h3⟩ := run_append_name w o.type hown n hlen hbase
 unfold Oper.wp
 simp [execOp, ho, resolve, invoke, builtin, hv, hx, hrun, Result.andThen]
 exact hK _ _ h1 h2 h3
theorem CopI.name {w wd w3 : World} {g x : Nat} {r1 : JR} {lv nv v' : Value} {rs : List JR} {ms ms' : List (List UInt8)} (h : CopI w wd g x r1 lv nv rs ms) (o : Obj) (hn : NamV w3 (g + 3) v' ms') (hgr : (wd.alloc o).grownBy w3 nv.ownBlock) (hfr : ∀ k, v'.ownBlock = some k → nv.ownBlock = some k ∨ wd.heap.size ≤ k) :
  CopI w (w3.setCell ⟨g + 2, 7, none⟩ v') g x r1 lv v' rs ms' := by
 have ha : Apart (fun k => nv.ownBlock = some k) (wd.alloc o) w3 := Apart.ofGrown hgr (fun k hk => hk)
 have hb : Below wd.heap.size wd (wd.alloc o) := (Below.refl _ _).alloc (Nat.le_refl _) o
 have hs : Apart (fun k => k = g + 2) w3 (w3.setCell ⟨g + 2, 7, none⟩ v') := Apart.set (S := fun k => k = g + 2) w3 rfl _
 have h' := h.below hb
 have hlt : ∀ k, nv.ownBlock = some k → g + 3 ≤ k := fun k hk => (World.ownsRow.lt h.nm k hk).1
 have j1 : JsV wd (g + 3) (fun k => SepC g x nv k ∧ SepC g x v' k) lv rs := h.js.mono (fun k hk hs => ⟨hs, ⟨hs.1.1, fun e => by
  rcases hfr k e with h9 | h9
  ·exact hs.1.2 h9
  ·omega⟩, hs.2⟩)
 have j2 : JsV w3 (g + 3) (SepC g x v') lv rs := ((j1.below hb).apart ha (fun k hk e => ownsRow_ne h.js.row h.nm (by decide) k hk e) (fun k hk _ e => hk.1.1.2 e)).mono (fun k _ hk => hk.2)
 have hlo := h.lo
 have hsz := ha.size
 refine ⟨(h'.be.trans (ha.below h'.be.size (fun i hi e => by have := hlt i e; omega))).trans (hs.below (Nat.le_trans h'.be.size hsz) (fun i hi e => by omega)), ?_, ?_, ?_, j2.apart hs (fun k hk e => by have := j2.lt hk; omega) (fun k hk _ e => by have := hk.1.1; omega), hn.apart hs (fun k hk _ e => by omega), hlo⟩
 ·exact (h'.v.apart ha (fun e => by have := hlt _ e; omega)).far (p := ⟨g + 2, 7, none⟩) (by show g + 2 ≠ g; omega) _
 ·exact (h'.res.apart ha (fun e => by have := hlt _ e; omega)).far (p := ⟨g + 2, 7, none⟩) (by show g + 2 ≠ g + 1; omega) _
 ·exact (h'.out.apart ha (fun e => by have := hlt _ e; omega)).set 7 _ (by simp [headC])
theorem turned_calls {w0 : World} {S1 : Nat → Prop} {r1 : JR} (h1 : JV w0 S1 r1) : ∀ (w : World), Below w0.heap.size w0 w → szJ r1.1 ≤ 20000000 →
  Calls Tryz.prog 38 #[jval r1] w (CopTo w (turnJ r1.1)) := by
 induction h1 with
 | mk r1 xs hn1 hl1 hs1 ih =>
  intro w hb hsz
  obtain ⟨⟨k, b, n, t, l, ns⟩, lv0, nv0⟩ := r1
  obtain ⟨p1, c1, hp1, hc1, hm1, hL1⟩ := hl1
  change lv0 = Value.slice p1 l.length c1 at hp1
  obtain ⟨q1, e1, hq1, hcn1, hk1, hN1⟩ := hn1
  change nv0 = Value.slice q1 ns.length e1 at hq1
  subst hp1 hq1
  simp only [J.l] at hm1 hL1 hc1
  simp only [J.ns] at hN1
  simp only [szJ] at hsz
  have hln : l.length ≤ 20000000 := by have := szL_len l; omega
  have hnn : ns.length ≤ 20000000 := by have := szN_len ns; omega
  obtain ⟨R1, hR1⟩ : ∃ R : JR, ((J.mk k b n t l ns, Value.slice p1 l.length c1, Value.slice q1 ns.length e1) : JR) = R := ⟨_, rfl⟩
  have HSJ1 : Hid (SlJ R1) := Lib.hid (by rw [← hR1]; exact ⟨rfl, rfl⟩)
  have HC1 : Hid (jcells R1 = headC (J.mk k b n t l ns) (Value.slice p1 l.length c1) (Value.slice q1 ns.length e1)) := Lib.hid (by rw [← hR1]; rfl)
  have HCC : Hid (∀ (W : World) (g : Nat), RowAt W g (jcells R1) → RowAt W g [.int .i64 k, .bool b, .bool n.neg, .string ⟨n.digits.toArray⟩, .int .i64 n.exp, .string ⟨t.toArray⟩, .slice p1 l.length c1, .slice q1 ns.length e1]) := Lib.hid (fun W g h => by rw [HC1.out] at h; exact h)
  have HR1 : Hid (R1.1 = J.mk k b n t l ns) := Lib.hid (by rw [← hR1])
  have HL := Lib.hid hL1
  have HN := Lib.hid hN1
  have HB := Lib.hid hb
  have HIH := Lib.hid ih
  have HJS := Lib.hid hs1
  have HSZ : Hid (szL l ≤ 20000000) := Lib.hid (by omega)
  rw [hR1]
  clear hR1 hL1 hN1 hb ih hs1 hsz hcn1 hk1 hc1 hm1
  have HTJ : Hid (turnJ (J.mk k b n t l ns) = .mk k b n t (trL k l ns l.length) (trN k l ns l.length)) := Lib.hid (turn_mk k b n t l ns)
  rw [show turnJ (R1.1) = turnJ (J.mk k b n t l ns) by rw [HR1.out]]
  obtain ⟨CJ, hCJ⟩ : ∃ c, turnJ (J.mk k b n t l ns) = c := ⟨_, rfl⟩
  rw [hCJ] at HTJ ⊢
  clear hCJ
  go_enter Tryz.func38, Tryz.ntmps38
  go_upto_region 1 with (first | (refine wpList_boxJ rfl _ rfl R1 rfl ?_; intro w1 hBx1) | (refine wpList_allocJ rfl rfl ?_; intro w2 hBx2))
  have hv2 := hBx1.row.below hBx2.be
  have hz1 := hBx1.size
  have hz2 := hBx2.size
  have HW2 : Hid (Below w.heap.size w w2) := Lib.hid (hBx2.below hBx1.be hBx1.be.size)
  have v6 : _ = some (Value.slice p1 l.length c1) := (HCC.out _ _ hv2).cell 6 _ rfl
  go_upto_region 3 with (first | refine wpList_loadJ rfl _ rfl R1 hv2 rfl ?_ | (refine wpList_allocJ rfl rfl ?_; intro w3 hBx3) | (refine wpList_storeJ rfl _ _ rfl rfl hBx3.row rfl R1 HSJ1.out rfl rfl ?_; intro w5 hSx4))
  clear v6
  have hz3 := hBx3.size
  have hz4 := hSx4.size
  have ho4 := hSx4.row
  have hv4 := (hv2.below hBx3.be).apart hSx4.apart (by omega)
  have hr4 := (hBx2.row.below hBx3.be).apart hSx4.apart (by omega)
  have HW5 : Hid (Below w.heap.size w w5) := Lib.hid (hSx4.below (hBx3.below HW2.out HW2.out.size) (by omega) (by omega))
  obtain ⟨g, hg⟩ : ∃ g, w.heap.size = g := ⟨_, rfl⟩
  have hy1 : w1.heap.size = g + 1 := by omega
  have hy2 : w2.heap.size = g + 2 := by omega
  have hy4 : w5.heap.size = g + 3 := by omega
  rw [hg] at hv4 ⊢
  rw [hy1] at hr4
  rw [hy2] at ho4
  try rw [hy1]
  try rw [hy2]
  have HG0 : Hid (w.heap.size = g) := Lib.hid hg
  have HY4 : Hid (w5.heap.size = g + 3) := Lib.hid hy4
  have HV5 := Lib.hid hv4
  have HR5 := Lib.hid hr4
  rw [HC1.out] at ho4
  have HO5 := Lib.hid ho4
  clear hv2 hz1 hz2 hz3 hz4 hBx1 hBx2 hBx3 hSx4 HW2 ho4 hv4 hr4 hg hy1 hy2 hy4
  have k7 := HO5.out.cell 7 _ rfl
  have f7 := HO5.out.free 7
  have k6 := HO5.out.cell 6 _ rfl
  have f6 := HO5.out.free 6
  go_upto_region 4 with fail
  have HI7 : Hid (CopI w ((w5.setCell ⟨g + 2, 6, none⟩ (.slice none 0 0)).setCell ⟨g + 2, 7, none⟩ (.slice none 0 0)) g 0 R1 (.slice none 0 0) (.slice none 0 0) [] []) := by
   have hlo := HG0.out
   have ha : Apart (fun k => k = g + 2) w5 ((w5.setCell ⟨g + 2, 6, none⟩ (.slice none 0 0)).setCell ⟨g + 2, 7, none⟩ (.slice none 0 0)) := (Apart.set (S := fun k => k = g + 2) w5 (a := ⟨g + 2, 6, none⟩) rfl _).trans (Apart.set (S := fun k => k = g + 2) _ (a := ⟨g + 2, 7, none⟩) rfl _) (fun _ _ h => h)
   refine Lib.hid ⟨HW5.out.trans (ha.below HW5.out.size (fun i hi e => by omega)), HV5.out.apart ha (by omega), HR5.out.apart ha (by omega), ?_, JsV.nil _ _ _, NamV.nil _ _, hlo⟩
   have h9 := (HO5.out.set 6 (.slice none 0 0) (by simp [headC])).set 7 (.slice none 0 0) (by simp [headC])
   rw [show R1.1 = J.mk k b n t l ns from HR1.out]
   exact h9
  generalize ((w5.setCell ⟨g + 2, 6, none⟩ (.slice none 0 0)).setCell ⟨g + 2, 7, none⟩ (.slice none 0 0)) = w7 at *
  clear k7 f7 k6 f6 HV5 HR5 HO5 HW5 HY4
  go_wp2_with fail
  go_loopg [5, 6] l.length (fun kk s5 s6 wr => ∃ (i : Nat) (lv nv : Value) (rs : List JR), kk = l.length - i ∧ i ≤ l.length ∧ s5 = .int .i64 (i : Int) ∧ CopI w wr g 0 R1 lv nv rs (trN k l ns i) ∧ rs.map (·.1) = trL k l ns i ∧ rs.length = i)
  case atStart => exact ⟨0, _, _, [], rfl, Nat.zero_le _, rfl, by rw [trN_zero]; exact HI7.out, rfl, rfl⟩
  case round =>
   obtain ⟨i, lv, nv, rs, hki, hi, rfl, hI, hrs, hrl⟩ := hrel
   have Hki := Lib.hid hki
   have HI := Lib.hid hI
   have HRS := Lib.hid hrs
   obtain ⟨pl, cl, rfl⟩ := hI.js.forms
   have HRL := Lib.hid hrl
   clear hki hI hrs hrl HI7
   by_cases hlt : i < l.length
   ·
    have hlti : (i : Int) < (l.length : Int) := by omega
    have v0 : _ = some (Value.int .i64 k) := (HCC.out _ _ HI.out.v).cell 0 _ rfl
    have v7 : _ = some (Value.slice q1 ns.length e1) := (HCC.out _ _ HI.out.v).cell 7 _ rfl
    obtain ⟨j, hj⟩ : ∃ j, trX k l ns i = j := ⟨_, rfl⟩
    have HJ := Lib.hid hj
    have HJL : Hid (j < l.length) := Lib.hid (by rw [← hj]; exact trX_lt k l ns hlt)
    have HTL := Lib.hid (trL_step k l ns hlt)
    have HTN := Lib.hid (trN_step k l ns i)
    rw [hj] at HTL HTN
    clear hj
    obtain ⟨y, hy⟩ : ∃ y, l[j]? = some y := ⟨_, List.getElem?_eq_getElem HJL.out⟩
    have HY := Lib.hid hy
    have hsx := szL_in hy
    have HSX : Hid (szJ y ≤ 20000000) := Lib.hid (by have := HSZ.out; omega)
    have HYD : Hid (l.getD j J.zero = y) := Lib.hid (by rw [List.getD_eq_getElem?_getD, hy]; rfl)
    clear hy hsx
    have HGNN := HI
    go_upto_region 8 with fail
    go_cut [28] from 19 to 28 (fun s28 wc => s28 = .bool (obB k l ns) ∧ wr = wc)
    case first =>
     by_cases hk5 : k = 5
     rotate_left
     ·
      have hk5b : ((k : Int) == 5) = false := by rw [beq_eq_false_iff_ne]; exact hk5
      go_wp2_with fail
      go_meet
      exact ⟨by unfold obB; rw [decide_eq_false (fun e => hk5 e.1)], rfl⟩
     ·
      subst hk5
      by_cases hnl : ns.length = l.length
      ·
       have hnli : ((ns.length : Int) == (l.length : Int)) = true := by rw [beq_iff_eq]; omega
       go_wp2_with fail
       go_meet
       exact ⟨by unfold obB; rw [decide_eq_true ⟨rfl, hnl⟩], rfl⟩
      ·
       have hnli : ((ns.length : Int) == (l.length : Int)) = false := by rw [beq_eq_false_iff_ne]; omega
       go_wp2_with fail
       go_meet
       exact ⟨by unfold obB; rw [decide_eq_false (fun e => hnl e.2)], rfl⟩
    case rest =>
     obtain ⟨rfl, rfl⟩ := hcut
     obtain ⟨ob, hob⟩ : ∃ ob, obB k l ns = ob := ⟨_, rfl⟩
     have HOB := Lib.hid hob
     rw [hob]
     clear hob
     go_upto_if 28 with fail
     go_cut [6] from 29 to 42 (fun s6 wc => ∃ nv2, s6 = .int .i64 (j : Int) ∧ CopI w wc g 0 R1 (.slice pl rs.length cl) nv2 rs (trN k l ns (i + 1)))
     case first =>
      cases ob with
      | false =>
       have hob : ¬ (k = 5 ∧ ns.length = l.length) := of_decide_eq_false HOB.out
       have hjv : j = i := by have := HJ.out; unfold trX at this; rw [if_neg hob] at this; exact this.symm
       have HTN2 : Hid (trN k l ns (i + 1) = trN k l ns i) := Lib.hid (by rw [HTN.out, if_neg hob, List.append_nil])
       clear hob
       go_wp2_with fail
       go_meet
       exact ⟨nv, by rw [hjv], by rw [HTN2.out]; exact HI.out⟩
      | true =>
       have hob : k = 5 ∧ ns.length = l.length := of_decide_eq_true HOB.out
       obtain ⟨rfl, hnl⟩ := hob
       have HNL := Lib.hid hnl
       have hjv : ((l.length : Int) - 1 - (i : Int)) = (j : Int) := by have := HJ.out; unfold trX at this; rw [if_pos ⟨rfl, HNL.out⟩] at this; omega
       obtain ⟨gn, fn, rfl, _, hgn, hns⟩ := HN.out (by omega)
       have hjn : j < ns.length := by have := HJL.out; omega
       have hjni : (j : Int) < (ns.length : Int) := by omega
       obtain ⟨s, hs⟩ : ∃ s, ns[j]? = some s := ⟨_, List.getElem?_eq_getElem hjn⟩
       have s0 := (HI.out.be.cell (p := ⟨gn, fn + j, none⟩) (Nat.lt_of_lt_of_le hgn HB.out.size)).trans ((HB.out.cell (p := ⟨gn, fn + j, none⟩) hgn).trans (hns j s hs))
       have HTN2 : Hid (trN 5 l ns (i + 1) = trN 5 l ns i ++ [s]) := Lib.hid (by rw [HTN.out, if_pos ⟨rfl, HNL.out⟩, List.getD_eq_getElem?_getD, hs]; rfl)
       have HGN2 : Hid (gn < g) := Lib.hid (by have := HG0.out; have := HB.out.size; omega)
       have HGN : Hid (gn < wr.drew.heap.size) := Lib.hid (Nat.lt_of_lt_of_le (Nat.lt_of_lt_of_le hgn HB.out.size) (HI.out.be.size))
       clear hs hns hgn
       clear hnl hjn
       go_upto_region 10 with fail
       try rw [hjv]
       clear hjv
       have HID := Lib.hid (HI.out.below (Below.refl _ _).drew)
       have hS0 : (fun wq => wq.cell? ⟨g, 7, none⟩ = some (Value.slice (some ⟨gn, fn, none⟩) ns.length e1) ∧ wq.cell? ⟨gn, fn + j, none⟩ = some (Value.string ⟨s.toArray⟩)) wr.drew := ⟨(HCC.out _ _ HID.out.v).cell 7 _ rfl, s0⟩
       refine wp_region_held_drew (S := (fun wq => wq.cell? ⟨g, 7, none⟩ = some (Value.slice (some ⟨gn, fn, none⟩) ns.length e1) ∧ wq.cell? ⟨gn, fn + j, none⟩ = some (Value.string ⟨s.toArray⟩))) (by kernel_rfl) hS0 (fun hHeld0 => ?_)
       obtain ⟨wd, hwd⟩ : ∃ wd, wr.drew = wd := ⟨_, rfl⟩
       have hSD : (fun wq => wq.cell? ⟨g, 7, none⟩ = some (Value.slice (some ⟨gn, fn, none⟩) ns.length e1) ∧ wq.cell? ⟨gn, fn + j, none⟩ = some (Value.string ⟨s.toArray⟩)) wd := by rw [← hwd]; exact hS0
       rw [hwd] at HID HGN hHeld0 ⊢
       clear hwd hS0
       refine held_tk 0 ?_ (fun wq hSq => ?_) hHeld0 ?_
       rotate_left
       ·(try dsimp only at hSq); go_simp; try with_reducible rfl
       simp only [Act.put, sbA, sbB, sbC]
       refine held_tk 2 ?_ (fun wq hSq => ?_) hHeld0 ?_
       rotate_left
       ·(try dsimp only at hSq); go_simp; try with_reducible rfl
       simp only [Act.put, sbA, sbB, sbC]
       refine held_tk 3 ?_ (fun wq hSq => ?_) hHeld0 ?_
       rotate_left
       ·(try dsimp only at hSq); go_simp; try with_reducible rfl
       simp only [Act.put, sbA, sbB, sbC]
       refine held_tk 4 ?_ (fun wq hSq => ?_) hHeld0 ?_
       rotate_left
       ·(try dsimp only at hSq); go_simp; try with_reducible rfl
       simp only [Act.put, sbA, sbB, sbC]
       refine held_tk 5 ?_ (fun wq hSq => ?_) hHeld0 ?_
       rotate_left
       ·(try dsimp only at hSq); go_simp; try with_reducible rfl
       simp only [Act.put, sbA, sbB, sbC]
       refine held_tk 6 ?_ (fun wq hSq => ?_) hHeld0 ?_
       rotate_left
       ·(try dsimp only at hSq); go_simp; try with_reducible rfl
       simp only [Act.put, sbA, sbB, sbC]
       have o7 : _ = some nv := HID.out.out.cell 7 _ rfl
       refine held_two (i := 1) (j := 7) (by kernel_rfl) rfl rfl (by rfl) (by rfl) (fun K hK => ?_) (fun K hK => ?_)
       ·
        go_simp
        clear o7
        refine hK.out _ _ hSD (fun hHeld1 => ?_)
        clear hK K hHeld0
        refine held_step (i := 7) (by kernel_rfl) rfl (by rfl) (fun K hK => ?_)
        go_simp
        have hba : Below wd.heap.size wd (wd.alloc (.cells #[.string ⟨s.toArray⟩] 9)) := (Below.refl _ _).alloc (Nat.le_refl _) _
        have HIB := Lib.hid (HID.out.below hba)
        have hSB : (fun wq => wq.cell? ⟨g, 7, none⟩ = some (Value.slice (some ⟨gn, fn, none⟩) ns.length e1) ∧ wq.cell? ⟨gn, fn + j, none⟩ = some (Value.string ⟨s.toArray⟩)) (wd.alloc (.cells #[.string ⟨s.toArray⟩] 9)) := ⟨(HCC.out _ _ HIB.out.v).cell 7 _ rfl, (hba.cell (p := ⟨gn, fn + j, none⟩) HGN.out).trans hSD.2⟩
        clear hba
        refine hK.out _ _ hSB (fun hHeld2 => ?_)
        clear hK K hHeld1
        refine held_step (i := 8) (by kernel_rfl) rfl (by rfl) (fun K hK => ?_)
        refine oper_append_name _ _ rfl (g + 3) nv (trN 5 l ns i) rfl HID.out.nm s rfl ?hn0 (by have := HID.out.out.lt; omega) (fun vC wC h1 h2 h3 => ?_)
        case hn0 => rw [trN_len]; split <;> omega
        obtain ⟨pv9, cv9, hvC⟩ := h1.forms
        obtain ⟨m9, hm9⟩ : ∃ m, (trN 5 l ns i ++ [s]).length = m := ⟨_, rfl⟩
        rw [hm9] at hvC
        clear hm9
        subst hvC
        have HIC := Lib.hid (HID.out.name _ h1 h2 h3)
        have haC : Apart (fun k => nv.ownBlock = some k) (wd.alloc (.cells #[.string ⟨s.toArray⟩] 9)) wC := Apart.ofGrown h2 (fun k hk => hk)
        have hltC : ∀ k, nv.ownBlock = some k → g + 3 ≤ k := fun k hk => (World.ownsRow.lt HID.out.nm k hk).1
        have hVC : RowAt wC g (jcells R1) := HIB.out.v.apart haC (fun e => by have := hltC _ e; omega)
        have HOC := Lib.hid (HIB.out.out.apart haC (fun e => by have := hltC _ e; omega))
        have hnC : nv.ownBlock ≠ some gn := fun e => by have := hltC _ e; have := HGN2.out; omega
        have hSC : (fun wq => wq.cell? ⟨g, 7, none⟩ = some (Value.slice (some ⟨gn, fn, none⟩) ns.length e1) ∧ wq.cell? ⟨gn, fn + j, none⟩ = some (Value.string ⟨s.toArray⟩)) wC := ⟨(HCC.out _ _ hVC).cell 7 _ rfl, (haC.cell (a := ⟨gn, fn + j, none⟩) (by show gn < _; rw [World.size_alloc]; have := HGN.out; omega) (fun e => hnC e)).trans hSB.2⟩
        have k7 := HOC.out.cell 7 _ rfl
        have f7 := HOC.out.free 7
        clear h1 h2 h3 haC hltC hVC hnC
        try simp only [Act.put, sbA, sbB, sbC]
        refine hK.out _ _ hSC (fun hHeld3 => ?_)
        clear hK K hHeld2
        refine held_tk 9 ?_ (fun wq hSq => ?_) hHeld3 ?_
        rotate_left
        ·(try dsimp only at hSq); go_simp; try with_reducible rfl
        simp only [Act.put, sbA, sbB, sbC]
        refine held_step (i := 10) (by kernel_rfl) rfl (by rfl) (fun K hK => ?_)
        go_simp
        clear k7 f7
        refine hK.out _ _ ⟨(HCC.out _ _ HIC.out.v).cell 7 _ rfl, (World.cell?_setCell_other _ _ _ _ (fun e => by injection e with e _; have := HGN2.out; omega)).trans hSC.2⟩ (fun hHeld4 => ?_)
        clear hK K hHeld3
        refine wpAnyH_done (by kernel_rfl) ?_ _
        clear hHeld4
        go_wp2_with fail
        go_meet
        exact ⟨_, rfl, by rw [HTN2.out]; exact HIC.out⟩
       ·
        go_simp
        have hba : Below wd.heap.size wd (wd.alloc (.cells #[.string ⟨s.toArray⟩] 9)) := (Below.refl _ _).alloc (Nat.le_refl _) _
        have HIB := Lib.hid (HID.out.below hba)
        have hSB : (fun wq => wq.cell? ⟨g, 7, none⟩ = some (Value.slice (some ⟨gn, fn, none⟩) ns.length e1) ∧ wq.cell? ⟨gn, fn + j, none⟩ = some (Value.string ⟨s.toArray⟩)) (wd.alloc (.cells #[.string ⟨s.toArray⟩] 9)) := ⟨(HCC.out _ _ HIB.out.v).cell 7 _ rfl, (hba.cell (p := ⟨gn, fn + j, none⟩) HGN.out).trans hSD.2⟩
        clear hba
        refine hK.out _ _ hSB (fun hHeld1 => ?_)
        clear hK K hHeld0
        have o7 : _ = some nv := HIB.out.out.cell 7 _ rfl
        refine held_step (i := 1) (by kernel_rfl) rfl (by rfl) (fun K hK => ?_)
        go_simp
        clear o7
        refine hK.out _ _ hSB (fun hHeld2 => ?_)
        clear hK K hHeld1
        refine held_step (i := 8) (by kernel_rfl) rfl (by rfl) (fun K hK => ?_)
        refine oper_append_name _ _ rfl (g + 3) nv (trN 5 l ns i) rfl HID.out.nm s rfl ?hn1 (by have := HID.out.out.lt; omega) (fun vC wC h1 h2 h3 => ?_)
        case hn1 => rw [trN_len]; split <;> omega
        obtain ⟨pv9, cv9, hvC⟩ := h1.forms
        obtain ⟨m9, hm9⟩ : ∃ m, (trN 5 l ns i ++ [s]).length = m := ⟨_, rfl⟩
        rw [hm9] at hvC
        clear hm9
        subst hvC
        have HIC := Lib.hid (HID.out.name _ h1 h2 h3)
        have haC : Apart (fun k => nv.ownBlock = some k) (wd.alloc (.cells #[.string ⟨s.toArray⟩] 9)) wC := Apart.ofGrown h2 (fun k hk => hk)
        have hltC : ∀ k, nv.ownBlock = some k → g + 3 ≤ k := fun k hk => (World.ownsRow.lt HID.out.nm k hk).1
        have hVC : RowAt wC g (jcells R1) := HIB.out.v.apart haC (fun e => by have := hltC _ e; omega)
        have HOC := Lib.hid (HIB.out.out.apart haC (fun e => by have := hltC _ e; omega))
        have hnC : nv.ownBlock ≠ some gn := fun e => by have := hltC _ e; have := HGN2.out; omega
        have hSC : (fun wq => wq.cell? ⟨g, 7, none⟩ = some (Value.slice (some ⟨gn, fn, none⟩) ns.length e1) ∧ wq.cell? ⟨gn, fn + j, none⟩ = some (Value.string ⟨s.toArray⟩)) wC := ⟨(HCC.out _ _ hVC).cell 7 _ rfl, (haC.cell (a := ⟨gn, fn + j, none⟩) (by show gn < _; rw [World.size_alloc]; have := HGN.out; omega) (fun e => hnC e)).trans hSB.2⟩
        have k7 := HOC.out.cell 7 _ rfl
        have f7 := HOC.out.free 7
        clear h1 h2 h3 haC hltC hVC hnC
        try simp only [Act.put, sbA, sbB, sbC]
        refine hK.out _ _ hSC (fun hHeld3 => ?_)
        clear hK K hHeld2
        refine held_tk 9 ?_ (fun wq hSq => ?_) hHeld3 ?_
        rotate_left
        ·(try dsimp only at hSq); go_simp; try with_reducible rfl
        simp only [Act.put, sbA, sbB, sbC]
        refine held_step (i := 10) (by kernel_rfl) rfl (by rfl) (fun K hK => ?_)
        go_simp
        clear k7 f7
        refine hK.out _ _ ⟨(HCC.out _ _ HIC.out.v).cell 7 _ rfl, (World.cell?_setCell_other _ _ _ _ (fun e => by injection e with e _; have := HGN2.out; omega)).trans hSC.2⟩ (fun hHeld4 => ?_)
        clear hK K hHeld3
        refine wpAnyH_done (by kernel_rfl) ?_ _
        clear hHeld4
        go_wp2_with fail
        go_meet
        exact ⟨_, rfl, by rw [HTN2.out]; exact HIC.out⟩
     case rest =>
      obtain ⟨nv2, rfl, hI10⟩ := hcut
      have HI10 := Lib.hid hI10
      clear hI10 HI HGNN v0 v7
      obtain ⟨pn, cn, hnv⟩ := HI10.out.nm.forms
      obtain ⟨gl, fl, rfl, _, hgl, hcs⟩ := HL.out (by omega)
      have hjli : (j : Int) < (l.length : Int) := by have := HJL.out; omega
      have HRA : Hid (∀ W, Below w0.heap.size w0 W → W.rangeAt gl (fl + j * 8) (jcells (y, xs j))) := Lib.hid (fun W hW c v hc => by
       have hc8 : c < 8 := (List.getElem?_eq_some_iff.1 hc).1
       rw [hW.cell (p := ⟨gl, fl + j * 8 + c, none⟩) hgl, hcs j y HY.out c hc8]; exact hc)
      clear hcs hgl hnv
      have HBW : Hid (Below w0.heap.size w0 wc) := Lib.hid (HB.out.trans (HI10.out.be.mono HB.out.size))
      have HXJ : Hid (∀ (W : World), Below w0.heap.size w0 W → szJ y ≤ 20000000 → Calls Tryz.prog 38 #[jval (y, xs j)] W (CopTo W (turnJ y))) := Lib.hid (HIH.out j y HY.out)
      have v6 : _ = some (Value.slice (some ⟨gl, fl, none⟩) l.length c1) := (HCC.out _ _ HI10.out.v).cell 6 _ rfl
      have HMK : Hid (∀ W, RowAt W g (jcells R1) → Below w0.heap.size w0 W → (fun wq => RowAt wq g [.int .i64 k, .bool b, .bool n.neg, .string ⟨n.digits.toArray⟩, .int .i64 n.exp, .string ⟨t.toArray⟩, .slice (some ⟨gl, fl, none⟩) l.length c1, .slice q1 ns.length e1] ∧ wq.cell? ⟨g, 6, none⟩ = some (Value.slice (some ⟨gl, fl, none⟩) l.length c1) ∧ Below w0.heap.size w0 wq) W) := Lib.hid (fun W h1 h2 => ⟨HCC.out _ _ h1, (HCC.out _ _ h1).cell 6 _ rfl, h2⟩)
      have HID := Lib.hid (HI10.out.below (Below.refl _ _).drew)
      have HBD : Hid (Below w0.heap.size w0 wc.drew) := Lib.hid (HBW.out.trans ((Below.refl wc.heap.size wc).drew.mono HBW.out.size))
      have HZD : Hid (g + 3 ≤ wc.drew.heap.size) := Lib.hid (by have := HID.out.out.lt; omega)
      have hS0 : (fun wq => RowAt wq g [.int .i64 k, .bool b, .bool n.neg, .string ⟨n.digits.toArray⟩, .int .i64 n.exp, .string ⟨t.toArray⟩, .slice (some ⟨gl, fl, none⟩) l.length c1, .slice q1 ns.length e1] ∧ wq.cell? ⟨g, 6, none⟩ = some (Value.slice (some ⟨gl, fl, none⟩) l.length c1) ∧ Below w0.heap.size w0 wq) wc.drew := HMK.out _ HID.out.v HBD.out
      clear v6
      go_upto_region 11 with fail
      refine wp_region_held_drew (S := (fun wq => RowAt wq g [.int .i64 k, .bool b, .bool n.neg, .string ⟨n.digits.toArray⟩, .int .i64 n.exp, .string ⟨t.toArray⟩, .slice (some ⟨gl, fl, none⟩) l.length c1, .slice q1 ns.length e1] ∧ wq.cell? ⟨g, 6, none⟩ = some (Value.slice (some ⟨gl, fl, none⟩) l.length c1) ∧ Below w0.heap.size w0 wq)) (by kernel_rfl) hS0 (fun hHeld0 => ?_)
      generalize wc.drew = wd at *
      refine held_tk 0 ?_ (fun wq hSq => ?_) hHeld0 ?_
      rotate_left
      ·(try dsimp only at hSq); go_simp; try with_reducible rfl
      simp only [Act.put, sbA, sbB, sbC]
      refine held_tk 2 ?_ (fun wq hSq => ?_) hHeld0 ?_
      rotate_left
      ·(try dsimp only at hSq); go_simp; try with_reducible rfl
      simp only [Act.put, sbA, sbB, sbC]
      refine held_tk 3 ?_ (fun wq hSq => ?_) hHeld0 ?_
      rotate_left
      ·(try dsimp only at hSq); go_simp; try with_reducible rfl
      simp only [Act.put, sbA, sbB, sbC]
      refine held_tk 4 ?_ (fun wq hSq => ?_) hHeld0 ?_
      rotate_left
      ·(try dsimp only at hSq); go_simp; try with_reducible rfl
      simp only [Act.put, sbA, sbB, sbC]
      refine held_tk 5 ?_ (fun wq hSq => ?_) hHeld0 ?_
      rotate_left
      ·(try dsimp only at hSq); go_simp; try with_reducible rfl
      simp only [Act.put, sbA, sbB, sbC]
      refine held_take (i := 6) (v := jval (y, xs j)) rfl (by kernel_rfl) (by kernel_rfl) (by kernel_rfl) (fun _ _ _ h => h) (by rfl) (fun wq hSq => exec_load8 _ rfl rfl (y, xs j) (HRA.out wq hSq.2.2)) hHeld0 ?_
      simp only [Act.put, sbA, sbB, sbC]
      have o6 : _ = some (Value.slice pl rs.length cl) := HID.out.out.cell 6 _ rfl
      refine held_two (i := 1) (j := 7) (by kernel_rfl) rfl rfl (by rfl) (by rfl) (fun K hK => ?_) (fun K hK => ?_)
      ·
       go_simp
       clear o6
       refine hK.out _ _ (HMK.out _ HID.out.v HBD.out) (fun hHeld1 => ?_)
       clear hK K hHeld0
       refine held_step (i := 7) (by kernel_rfl) rfl (by rfl) (fun K hK => ?_)
       go_simp
       refine (HXJ.out wd HBD.out HSX.out).mono ?_
       rintro ez wA ⟨lvA, nvA, rfl, hJA, hBA⟩
       have HIA := Lib.hid (HID.out.below hBA)
       have HBA : Hid (Below w0.heap.size w0 wA) := Lib.hid (HBD.out.trans (hBA.mono HBD.out.size))
       have HXA := Lib.hid (HIA.out.fresh (B1 := wd.heap.size) hJA (by have := HZD.out; omega) (fun k hk => (HID.out.js.lt hk).2) (fun k hk => (World.ownsRow.lt HID.out.nm k hk).2) (by have := HZD.out; omega))
       have HSA := Lib.hid hJA.slJ
       clear hJA hBA
       refine hK.out _ _ (HMK.out _ HIA.out.v HBA.out) (fun hHeld2 => ?_)
       clear hK K hHeld1
       refine held_step (i := 8) (by kernel_rfl) rfl (by rfl) (fun K hK => ?_)
       refine oper_buildJ _ rfl (turnJ y, lvA, nvA) rfl ?_
       intro wB hBxB
       have HIB := Lib.hid (HIA.out.below hBxB.be)
       have HBB : Hid (Below w0.heap.size w0 wB) := Lib.hid (HBA.out.trans (hBxB.be.mono HBA.out.size))
       have HXB := Lib.hid (HXA.out.bel hBxB.be)
       have HRB := Lib.hid hBxB.row
       have HSB : Hid (g + 3 ≤ wB.heap.size) := Lib.hid (by have := HIB.out.out.lt; have := hBxB.size; omega)
       clear hBxB
       refine hK.out _ _ (HMK.out _ HIB.out.v HBB.out) (fun hHeld3 => ?_)
       clear hK K hHeld2
       refine held_step (i := 9) (by kernel_rfl) rfl (by rfl) (fun K hK => ?_)
       refine oper_append_json _ _ rfl (g + 3) (SepC g 0 nv2) (.slice pl rs.length cl) rs rfl HIB.out.js (turnJ y, lvA, nvA) HXB.out wA.heap.size 1 rfl ?hcs0 ?hlen0 HSB.out (fun vC wC h1 h2 h3 => ?_)
       case hcs0 => intro c hc; exact (HRB.out.cell c _ (List.getElem?_eq_getElem (by exact hc))).trans (List.getElem?_eq_getElem (by exact hc)).symm
       case hlen0 => have := HRL.out; omega
       obtain ⟨pv, cv, hvC⟩ := h1.forms
       rw [List.length_append, List.length_singleton] at hvC
       subst hvC
       have HIC := Lib.hid (HIB.out.push h1 h2)
       have haC : Apart (fun k => (Value.slice pl rs.length cl).ownBlock = some k) wB wC := Apart.ofGrown h2 (fun k hk => hk)
       have hltC : ∀ k, (Value.slice pl rs.length cl).ownBlock = some k → g + 3 ≤ k := fun k hk => (HIB.out.js.lt hk).1
       have HOC := Lib.hid (HIB.out.out.apart haC (fun e => by have := hltC _ e; omega))
       have HVC := Lib.hid (HIB.out.v.apart haC (fun e => by have := hltC _ e; omega))
       have HBC : Hid (Below w0.heap.size w0 wC) := Lib.hid (HBB.out.trans (haC.below HBB.out.size (fun i hi e => by have := hltC _ e; have := HG0.out; have := HB.out.size; omega)))
       clear h1 h2 h3 haC hltC
       have k6 := HOC.out.cell 6 _ rfl
       have f6 := HOC.out.free 6
       try simp only [Act.put, sbA, sbB, sbC]
       refine hK.out _ _ (HMK.out _ HVC.out HBC.out) (fun hHeld4 => ?_)
       clear hK K hHeld3
       refine held_tk 10 ?_ (fun wq hSq => ?_) hHeld4 ?_
       rotate_left
       ·(try dsimp only at hSq); go_simp; try with_reducible rfl
       simp only [Act.put, sbA, sbB, sbC]
       refine held_step (i := 11) (by kernel_rfl) rfl (by rfl) (fun K hK => ?_)
       go_simp
       refine hK.out _ _ (HMK.out _ HIC.out.v (HB.out.trans (HIC.out.be.mono HB.out.size))) (fun hHeld5 => ?_)
       clear hK K hHeld4
       refine wpAnyH_done (by kernel_rfl) ?_ _
       clear hHeld5
       go_wp2_with fail
       go_roundg (l.length - (i + 1))
       case measure => have := Hki.out; omega
       case rel => exact ⟨i + 1, _, _, rs ++ [(turnJ y, lvA, nvA)], rfl, by omega, by go_num, HIC.out, by rw [List.map_append, HRS.out, HTL.out, HYD.out]; rfl, by rw [List.length_append, HRL.out]; rfl⟩
      ·
       go_simp
       refine (HXJ.out wd HBD.out HSX.out).mono ?_
       rintro ez wA ⟨lvA, nvA, rfl, hJA, hBA⟩
       have HIA := Lib.hid (HID.out.below hBA)
       have HBA : Hid (Below w0.heap.size w0 wA) := Lib.hid (HBD.out.trans (hBA.mono HBD.out.size))
       have HXA := Lib.hid (HIA.out.fresh (B1 := wd.heap.size) hJA (by have := HZD.out; omega) (fun k hk => (HID.out.js.lt hk).2) (fun k hk => (World.ownsRow.lt HID.out.nm k hk).2) (by have := HZD.out; omega))
       have HSA := Lib.hid hJA.slJ
       clear hJA hBA
       refine hK.out _ _ (HMK.out _ HIA.out.v HBA.out) (fun hHeld1 => ?_)
       clear hK K hHeld0
       have o6 : _ = some (Value.slice pl rs.length cl) := HIA.out.out.cell 6 _ rfl
       refine held_two (i := 1) (j := 8) (by kernel_rfl) rfl rfl (by rfl) (by rfl) (fun K hK => ?_) (fun K hK => ?_)
       ·
        go_simp
        clear o6
        refine hK.out _ _ (HMK.out _ HIA.out.v HBA.out) (fun hHeld2 => ?_)
        clear hK K hHeld1
        refine held_step (i := 8) (by kernel_rfl) rfl (by rfl) (fun K hK => ?_)
        refine oper_buildJ _ rfl (turnJ y, lvA, nvA) rfl ?_
        intro wB hBxB
        have HIB := Lib.hid (HIA.out.below hBxB.be)
        have HBB : Hid (Below w0.heap.size w0 wB) := Lib.hid (HBA.out.trans (hBxB.be.mono HBA.out.size))
        have HXB := Lib.hid (HXA.out.bel hBxB.be)
        have HRB := Lib.hid hBxB.row
        have HSB : Hid (g + 3 ≤ wB.heap.size) := Lib.hid (by have := HIB.out.out.lt; have := hBxB.size; omega)
        clear hBxB
        refine hK.out _ _ (HMK.out _ HIB.out.v HBB.out) (fun hHeld3 => ?_)
        clear hK K hHeld2
        refine held_step (i := 9) (by kernel_rfl) rfl (by rfl) (fun K hK => ?_)
        refine oper_append_json _ _ rfl (g + 3) (SepC g 0 nv2) (.slice pl rs.length cl) rs rfl HIB.out.js (turnJ y, lvA, nvA) HXB.out wA.heap.size 1 rfl ?hcs1 ?hlen1 HSB.out (fun vC wC h1 h2 h3 => ?_)
        case hcs1 => intro c hc; exact (HRB.out.cell c _ (List.getElem?_eq_getElem (by exact hc))).trans (List.getElem?_eq_getElem (by exact hc)).symm
        case hlen1 => have := HRL.out; omega
        obtain ⟨pv, cv, hvC⟩ := h1.forms
        rw [List.length_append, List.length_singleton] at hvC
        subst hvC
        have HIC := Lib.hid (HIB.out.push h1 h2)
        have haC : Apart (fun k => (Value.slice pl rs.length cl).ownBlock = some k) wB wC := Apart.ofGrown h2 (fun k hk => hk)
        have hltC : ∀ k, (Value.slice pl rs.length cl).ownBlock = some k → g + 3 ≤ k := fun k hk => (HIB.out.js.lt hk).1
        have HOC := Lib.hid (HIB.out.out.apart haC (fun e => by have := hltC _ e; omega))
        have HVC := Lib.hid (HIB.out.v.apart haC (fun e => by have := hltC _ e; omega))
        have HBC : Hid (Below w0.heap.size w0 wC) := Lib.hid (HBB.out.trans (haC.below HBB.out.size (fun i hi e => by have := hltC _ e; have := HG0.out; have := HB.out.size; omega)))
        clear h1 h2 h3 haC hltC
        have k6 := HOC.out.cell 6 _ rfl
        have f6 := HOC.out.free 6
        try simp only [Act.put, sbA, sbB, sbC]
        refine hK.out _ _ (HMK.out _ HVC.out HBC.out) (fun hHeld4 => ?_)
        clear hK K hHeld3
        refine held_tk 10 ?_ (fun wq hSq => ?_) hHeld4 ?_
        rotate_left
        ·(try dsimp only at hSq); go_simp; try with_reducible rfl
        simp only [Act.put, sbA, sbB, sbC]
        refine held_step (i := 11) (by kernel_rfl) rfl (by rfl) (fun K hK => ?_)
        go_simp
        refine hK.out _ _ (HMK.out _ HIC.out.v (HB.out.trans (HIC.out.be.mono HB.out.size))) (fun hHeld5 => ?_)
        clear hK K hHeld4
        refine wpAnyH_done (by kernel_rfl) ?_ _
        clear hHeld5
        go_wp2_with fail
        go_roundg (l.length - (i + 1))
        case measure => have := Hki.out; omega
        case rel => exact ⟨i + 1, _, _, rs ++ [(turnJ y, lvA, nvA)], rfl, by omega, by go_num, HIC.out, by rw [List.map_append, HRS.out, HTL.out, HYD.out]; rfl, by rw [List.length_append, HRL.out]; rfl⟩
       ·
        refine oper_buildJ _ rfl (turnJ y, lvA, nvA) rfl ?_
        intro wB hBxB
        have HIB := Lib.hid (HIA.out.below hBxB.be)
        have HBB : Hid (Below w0.heap.size w0 wB) := Lib.hid (HBA.out.trans (hBxB.be.mono HBA.out.size))
        have HXB := Lib.hid (HXA.out.bel hBxB.be)
        have HRB := Lib.hid hBxB.row
        have HSB : Hid (g + 3 ≤ wB.heap.size) := Lib.hid (by have := HIB.out.out.lt; have := hBxB.size; omega)
        clear hBxB
        refine hK.out _ _ (HMK.out _ HIB.out.v HBB.out) (fun hHeld2 => ?_)
        clear hK K hHeld1
        have o6 : _ = some (Value.slice pl rs.length cl) := HIB.out.out.cell 6 _ rfl
        refine held_step (i := 1) (by kernel_rfl) rfl (by rfl) (fun K hK => ?_)
        go_simp
        clear o6
        refine hK.out _ _ (HMK.out _ HIB.out.v HBB.out) (fun hHeld3 => ?_)
        clear hK K hHeld2
        refine held_step (i := 9) (by kernel_rfl) rfl (by rfl) (fun K hK => ?_)
        refine oper_append_json _ _ rfl (g + 3) (SepC g 0 nv2) (.slice pl rs.length cl) rs rfl HIB.out.js (turnJ y, lvA, nvA) HXB.out wA.heap.size 1 rfl ?hcs2 ?hlen2 HSB.out (fun vC wC h1 h2 h3 => ?_)
        case hcs2 => intro c hc; exact (HRB.out.cell c _ (List.getElem?_eq_getElem (by exact hc))).trans (List.getElem?_eq_getElem (by exact hc)).symm
        case hlen2 => have := HRL.out; omega
        obtain ⟨pv, cv, hvC⟩ := h1.forms
        rw [List.length_append, List.length_singleton] at hvC
        subst hvC
        have HIC := Lib.hid (HIB.out.push h1 h2)
        have haC : Apart (fun k => (Value.slice pl rs.length cl).ownBlock = some k) wB wC := Apart.ofGrown h2 (fun k hk => hk)
        have hltC : ∀ k, (Value.slice pl rs.length cl).ownBlock = some k → g + 3 ≤ k := fun k hk => (HIB.out.js.lt hk).1
        have HOC := Lib.hid (HIB.out.out.apart haC (fun e => by have := hltC _ e; omega))
        have HVC := Lib.hid (HIB.out.v.apart haC (fun e => by have := hltC _ e; omega))
        have HBC : Hid (Below w0.heap.size w0 wC) := Lib.hid (HBB.out.trans (haC.below HBB.out.size (fun i hi e => by have := hltC _ e; have := HG0.out; have := HB.out.size; omega)))
        clear h1 h2 h3 haC hltC
        have k6 := HOC.out.cell 6 _ rfl
        have f6 := HOC.out.free 6
        try simp only [Act.put, sbA, sbB, sbC]
        refine hK.out _ _ (HMK.out _ HVC.out HBC.out) (fun hHeld4 => ?_)
        clear hK K hHeld3
        refine held_tk 10 ?_ (fun wq hSq => ?_) hHeld4 ?_
        rotate_left
        ·(try dsimp only at hSq); go_simp; try with_reducible rfl
        simp only [Act.put, sbA, sbB, sbC]
        refine held_step (i := 11) (by kernel_rfl) rfl (by rfl) (fun K hK => ?_)
        go_simp
        refine hK.out _ _ (HMK.out _ HIC.out.v (HB.out.trans (HIC.out.be.mono HB.out.size))) (fun hHeld5 => ?_)
        clear hK K hHeld4
        refine wpAnyH_done (by kernel_rfl) ?_ _
        clear hHeld5
        go_wp2_with fail
        go_roundg (l.length - (i + 1))
        case measure => have := Hki.out; omega
        case rel => exact ⟨i + 1, _, _, rs ++ [(turnJ y, lvA, nvA)], rfl, by omega, by go_num, HIC.out, by rw [List.map_append, HRS.out, HTL.out, HYD.out]; rfl, by rw [List.length_append, HRL.out]; rfl⟩
   ·
    have hlti : ¬ (i : Int) < (l.length : Int) := by omega
    obtain rfl : i = l.length := by omega
    obtain ⟨pn, cn, hnv⟩ := HI.out.nm.forms
    rw [hnv] at HI
    clear hnv
    obtain ⟨NL, hNL⟩ : ∃ m, (trN k l ns l.length).length = m := ⟨_, rfl⟩
    rw [hNL] at HI
    clear hNL
    have HDN : Hid (JV wr (fun k => g + 3 ≤ k) (CJ, .slice pl rs.length cl, .slice pn NL cn)) := Lib.hid (by
     have h9 := HI.out.done
     rw [HRS.out, show R1.1 = J.mk k b n t l ns from HR1.out] at h9
     rw [HTJ.out]
     exact h9)
    have HOU : Hid (RowAt wr (g + 2) (jcells (CJ, .slice pl rs.length cl, .slice pn NL cn))) := Lib.hid (by
     have h9 := HI.out.out
     rw [show R1.1 = J.mk k b n t l ns from HR1.out] at h9
     rw [HTJ.out]
     exact h9)
    go_wp2_with (first | with_reducible refine stop_ret ?_ | refine wpList_loadJ rfl _ rfl (CJ, .slice pl rs.length cl, .slice pn NL cn) HOU.out rfl ?_ | (refine wpList_storeJ rfl _ _ rfl rfl HI.out.res rfl (CJ, .slice pl rs.length cl, .slice pn NL cn) ⟨rfl, rfl⟩ rfl rfl ?_; intro wS hSx))
    refine Lib.hid ?_
    refine bodyPost_retJ (CJ, .slice pl rs.length cl, .slice pn NL cn) rfl rfl rfl hSx.row ?_
    exact ⟨_, _, rfl, (HDN.out.apart hSx.apart (fun k hk _ e => by omega)).mono (fun k _ hk => by have := HG0.out; omega), hSx.below HI.out.be (by have := HG0.out; omega) HI.out.be.size⟩
end Go.Proofs.YtfclfaidmipjpaaGreatDoor
