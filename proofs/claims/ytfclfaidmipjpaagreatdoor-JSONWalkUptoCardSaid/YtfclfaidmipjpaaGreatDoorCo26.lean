/- Texts of this claim, joined: Jp14. -/
import Derived.Test.YtfclfaidmipjpaaGreatDoorCo25
namespace Go.Proofs.YtfclfaidmipjpaaGreatDoor
set_option maxRecDepth 100000
set_option maxHeartbeats 20000000
open Go.Lib (hid)
open Go.RowKit
theorem skip_idem : ∀ s : List UInt8, skipS (skipS s) = skipS s
 | [] => rfl
 | c :: t => by
  unfold skipS
  cases hb : blankB c with
  | true => rw [List.dropWhile_cons_of_pos hb]; exact skip_idem t
  | false => rw [List.dropWhile_cons_of_neg (by rw [hb]; decide), List.dropWhile_cons_of_neg (by rw [hb]; decide)]
theorem skip_skip (s : List UInt8) {c : UInt8} {t : List UInt8} (h : skipS s = c :: t) : skipS (c :: t) = c :: t := by
 rw [← h]; exact skip_idem s
theorem loopS_skip {z : List UInt8} {n d : Nat} {obj first : Bool} {ls : List J} {ns : List (List UInt8)} {s : List UInt8} {f : Fl} {c : UInt8} {t : List UInt8} (h : skipS s = c :: t) : loopS z n d obj first ls ns (c :: t) f = loopS z n d obj first ls ns s f := by
 unfold loopS
 rw [skip_skip s h, h]
def MemP (w wc : World) (R g5 g L : Nat) (obj : Bool) (s2 : List UInt8) (f2 : Fl) (rs : List JR) (ns2 : List (List UInt8)) (lv : Value) : Prop := ∃ nv, PinI w wc R g5 g L obj s2 f2 rs ns2 lv nv
def ValIP (w wc : World) (R g5 g L : Nat) (obj : Bool) (v3 : J) (s3 : List UInt8) (f3 : Fl) (rs : List JR) (ns : List (List UInt8)) (nv : Value) : Prop := ∃ lv3 nv3 lv2, PinI w wc R g5 g L obj s3 f3 (rs ++ [(v3, lv3, nv3)]) ns lv2 nv
theorem inP_calls (k : Nat) (HV : ∀ j, j < k → ValPAll j) (w : World) {R g5 : Nat} (obj : Bool) {s : List UInt8} {d : Nat} {f : Fl} {v : J} {r : List UInt8} {f2 : Fl} (h : PdAt w R s f.alone f.twice f.great)
  (hv : RowAt w g5 [.int .i64 (kindI obj), .bool false, .bool false, .string ⟨#[]⟩, .int .i64 0, .string ⟨#[]⟩, .slice none 0 0, .slice none 0 0]) (hne : R ≠ g5) (hl : s.length ≤ 100000000) (hs : inS [0] k d obj s f = some (v, r, f2)) :
  Calls Tryz.prog 82 #[.pointer (some ⟨R, 0, none⟩), .pointer (some ⟨g5, 0, none⟩), .int .u8 ((endB obj).toNat : Int)] w (InPTo w R g5 v r f2) := by
 obtain ⟨k1, rfl⟩ : ∃ k1, k = k1 + 1 := by
  cases k with
  | zero => simp [inS] at hs
  | succ k1 => exact ⟨k1, rfl⟩
 rw [inS_loop] at hs
 have hb0 : Below w.heap.size w (w.alloc (.map #[] 0)) := (Below.refl _ _).alloc (Nat.le_refl _) _
 have hcm := CntV.made w
 have hi0 : PinI w (w.alloc (.map #[] 0)) R g5 w.heap.size s.length obj s f [] [] (.slice none 0 0) (.slice none 0 0) :=
  ⟨h.below hb0, hv.below hb0, hcm, JsV.nil _ _ _, NamV.nil _ _, Apart.ofBelow (S := fun k => k = R ∨ k = g5) hb0, by simp, by simp⟩
 have HG0 : Hid (R < w.heap.size ∧ g5 < w.heap.size ∧ R ≠ g5) := hid ⟨h.lt, hv.lt, hne⟩
 have HI0 := hid hi0
 have HS := hid hs
 have HVV := hid HV
 clear h hv hne hs HV hb0 hcm hi0
 obtain ⟨L, hL⟩ : ∃ L, s.length = L := ⟨_, rfl⟩
 rw [hL] at HI0
 have hL2 : L ≤ 100000000 := by omega
 clear hL hl
 have hmm := @run_makeMap Tryz.prog
 go_enter Tryz.func82, Tryz.ntmps82
 go_wp2_with fail
 have HG2 : Hid (∃ g, w.heap.size = g ∧ R < g ∧ g5 < g ∧ R ≠ g5) := hid ⟨_, rfl, HG0.out⟩
 obtain ⟨g, hg, hgg⟩ := HG2.out
 have HG := hid hgg
 have HW : Hid (w.heap.size = g) := hid hg
 rw [hg] at HI0 ⊢
 generalize w.alloc (.map #[] 0) = w1 at *
 clear HG0 HG2 hg hgg hmm
 go_loopg [] (k1 + 1) (fun kk wr => ∃ (n : Nat) (first : Bool) (s1 : List UInt8) (f1 : Fl) (rs : List JR) (ns : List (List UInt8)) (lv nv : Value), kk = n + 1 ∧ n ≤ k1 ∧ PinI w wr R g5 g L obj s1 f1 rs ns lv nv ∧ loopS [0] n d obj first (rs.map (·.1)) ns s1 f1 = some (v, r, f2))
 case atStart => exact ⟨k1, true, s, f, [], [], _, _, rfl, Nat.le_refl _, HI0.out, HS.out⟩
 case round =>
  obtain ⟨n, first, s1, f1, rs, ns, lv, nv, hkk, hnk, hI, hL⟩ := hrel
  obtain ⟨c, t, hc, hd⟩ := loop_some hL
  have Hkk := hid hkk
  have HI := hid hI
  have HD := hid hd
  obtain ⟨pl, cl, rfl⟩ := hI.js.forms
  obtain ⟨pn, cn, rfl⟩ := hI.nm.forms
  clear hkk hI HI0 HS hL hd
  have hs1 : s1.length ≤ L := by have := HI.out.lr; omega
  have hct : t.length < s1.length := by have h9 := congrArg List.length hc; rw [List.length_cons] at h9; have := skip_len s1; omega
  go_wp2_with fail
  refine (nextP_calls wr HI.out.rd [44] hc).mono ?_
  rintro e w2 ⟨rfl, ho2, hr2⟩
  have hln2 : (if [44].contains c then t else c :: t).length ≤ s1.length := by
   split
   ·omega
   rw [List.length_cons]; omega
  have HI2 := hid (HI.out.only (f' := f1) HG.out ho2 hr2 hln2)
  clear ho2 hr2 HI hc
  have hcl := c.toNat_lt
  by_cases he : c = endB obj
  ·
   have hy : (v, r, f2) = (listJ obj (rs.map (·.1)) ns, t, f1) := by
    rcases HD.out with ⟨_, h1⟩ | ⟨h1, _⟩
    ·exact h1
    exact absurd he h1
   have h44 : [44].contains c = false := by rw [he]; cases obj <;> rfl
   rw [h44] at HI2
   simp only [Bool.false_eq_true, if_false] at HI2
   simp only [Prod.mk.injEq] at hy
   have HY := hid hy
   have c0 := HI2.out.rd.cell 0 _ rfl
   have f0 := HI2.out.rd.free 0
   have hq1 : ((c.toNat : Int) == ((endB obj).toNat : Int)) = true := by rw [beq_iff_eq, he]
   have hq2 : ((c.toNat : Int) != ((endB obj).toNat : Int)) = false := by rw [bne_eq_false_iff_eq, he]
   have hx1 := ext_drop (c :: t) 1
   rw [show (c :: t).drop 1 = t from rfl] at hx1
   have hy0 : (1 : Int) ≤ ((c :: t).length : Int) := by rw [List.length_cons]; omega
   have HX := hid (HI2.out.only (s' := t) (f' := f1) HG.out ((OnlyR.refl R w2).set 0 (.string ⟨t.toArray⟩)) (HI2.out.rd.text t) (by rw [List.length_cons]; omega))
   obtain ⟨ct, hct2⟩ : ∃ ct, c :: t = ct := ⟨_, rfl⟩
   rw [hct2] at hx1 hy0 c0 HI2
   clear hct2 he hy h44 HD hct hln2 hs1
   go_wp2_with fail
   first | go_end0 | go_ret
   exact ⟨rfl, HX.out.on, by rw [HY.out.2.1, HY.out.2.2]; exact HX.out.rd, _, _, by rw [HY.out.1]; exact HX.out.v, by rw [HY.out.1]; exact HX.out.done HW.out⟩
  have hit : itemS [0] n d obj (rs.map (·.1)) ns (if [44].contains c then t else c :: t) f1 = some (v, r, f2) := by
   rcases HD.out with ⟨h1, _⟩ | ⟨_, h1⟩
   ·exact absurd h1 he
   exact h1
  obtain ⟨n1, ns2, s2, f3, v3, s3, f4, rfl, hmem, hval, hloop⟩ := item_some hit
  have HMEM := hid hmem
  have HVAL := hid hval
  have HLOOP := hid hloop
  have hq1 : ((c.toNat : Int) == ((endB obj).toNat : Int)) = false := by
   rw [beq_eq_false_iff_ne]
   intro h9
   exact he (UInt8.toNat_inj.1 (by omega))
  have hq2 : ((c.toNat : Int) != ((endB obj).toNat : Int)) = true := by rw [bne_iff_ne]; rw [beq_eq_false_iff_ne] at hq1; exact hq1
  obtain ⟨s4, hs4⟩ : ∃ s4, (if [44].contains c then t else c :: t) = s4 := ⟨_, rfl⟩
  rw [hs4] at HI2 HMEM hln2
  clear hit hmem hval hloop he HD hs4 hct
  have hs4 : s4.length ≤ L := by omega
  have hm2 : s2.length ≤ s4.length := mem_len HMEM.out
  have hv3 : s3.length < s2.length := (val_len n1).1 _ _ _ _ _ _ HVAL.out
  have v0 := HI2.out.v.cell 0 _ rfl
  go_upto_if 17 with fail
  go_cut [7] from 18 to 50 (fun s7 wc => MemP w wc R g5 g L obj s2 f3 rs ns2 (.slice pl rs.length cl))
  case first =>
   cases obj with
   | false =>
    have hm9 := HMEM.out
    rw [mem_list] at hm9
    simp only [Option.some.injEq, Prod.mk.injEq] at hm9
    obtain ⟨rfl, rfl, rfl⟩ := hm9
    go_wp2_with fail
    go_meet
    exact ⟨_, HI2.out⟩
   | true =>
    obtain ⟨t1, u, r1, a, hk1, hqt, hk2, e1, e2⟩ := mem_some HMEM.out
    have HQT := hid hqt
    have HK2 := hid hk2
    have HE1 := hid e1
    have HE2 := hid e2
    have ht1 : (34 :: t1).length ≤ s4.length := by rw [← hk1]; exact skip_len s4
    have hr1 : r1.length < t1.length := qtS_len hqt
    have hu4 := qtS_four hqt
    rw [List.length_cons] at ht1
    clear hqt hk2 e1 e2 HMEM
    go_wp2_with fail
    refine (nextP_calls _ HI2.out.rd [] hk1).mono ?_
    rintro e w3 ⟨rfl, ho3, hr3⟩
    simp only [List.contains_nil, Bool.false_eq_true, if_false] at hr3
    have HI3 := hid (HI2.out.only (f' := f1) HG.out ho3 hr3 (by rw [List.length_cons]; omega))
    clear ho3 hr3 HI2 hk1 v0
    go_wp2_with fail
    refine (textP_calls w3 HI3.out.rd (by omega) HQT.out).mono ?_
    rintro e w4 ⟨rfl, ho4, hr4⟩
    have HI4 := hid (HI3.out.only (f' := { f1 with alone := f1.alone || a }) HG.out ho4 hr4 (by rw [List.length_cons]; omega))
    have HNQ : Hid (ns.length + 1 + r1.length ≤ L) := hid (by have h9 := HI3.out.ln; rw [List.length_cons] at h9; omega)
    clear ho4 hr4 HI3
    have hnsl : ns.length + r1.length ≤ L := HI4.out.ln
    have hmxu : u.length ≤ maxLen := by unfold maxLen; omega
    have t2 := HI4.out.rd.cell 2 _ rfl
    have q2 := HI4.out.rd.free 2
    go_upto_region 5 with fail
    go_cut [] from 22 to 34 (fun wc => PinI w wc R g5 g L true r1 { f1 with alone := f1.alone || a, twice := f1.twice || ns.contains u } rs ns (.slice pl rs.length cl) (.slice pn ns.length cn))
    case first =>
     cases htw : f1.twice with
     | true =>
      rw [show ({ f1 with alone := f1.alone || a } : Fl).twice = true from htw] at t2
      have HTW := hid htw
      clear htw
      go_wp2_with fail
      go_meet
      exact HI4.out.only (f' := { f1 with alone := f1.alone || a, twice := f1.twice || ns.contains u }) HG.out ((OnlyR.refl R _).set 2 _) (by rw [HTW.out, Bool.true_or]; exact RowAt.set HI4.out.rd 2 (.bool true) (by simp)) (Nat.le_refl _)
     | false =>
      rw [show ({ f1 with alone := f1.alone || a } : Fl).twice = false from htw] at t2
      have HTW := hid htw
      clear htw
      have hlk := HI4.out.mp.look u hmxu
      cases hcu : ns.contains u with
      | true =>
       have hposn : 0 < ns.count u := List.count_pos_iff.2 (List.contains_iff_mem.1 hcu)
       have hpos : (0 : Int) < (ns.count u : Int) := by
        have := List.count_pos_iff.2 (List.contains_iff_mem.1 hcu)
        omega
       have HCU := hid hcu
       clear hcu
       generalize ns.count u = cu at *
       go_wp2_with fail
       go_meet
       exact HI4.out.only (f' := { f1 with alone := f1.alone || a, twice := f1.twice || ns.contains u }) HG.out ((OnlyR.refl R _).set 2 _) (by rw [HTW.out, HCU.out]; exact RowAt.set HI4.out.rd 2 (.bool true) (by simp)) (Nat.le_refl _)
      | false =>
       have hposn : decide (0 < ns.count u) = false := by
        rw [decide_eq_false_iff_not]
        have : ns.count u = 0 := List.count_eq_zero.2 (fun h9 => by rw [List.contains_iff_mem.2 h9] at hcu; cases hcu)
        omega
       have hpos : decide ((0 : Int) < (ns.count u : Int)) = false := by
        rw [decide_eq_false_iff_not]
        have : ns.count u = 0 := List.count_eq_zero.2 (fun h9 => by rw [List.contains_iff_mem.2 h9] at hcu; cases hcu)
        omega
       have HCU := hid hcu
       clear hcu
       generalize ns.count u = cu at *
       go_wp2_with fail
       go_meet
       exact HI4.out.only (f' := { f1 with alone := f1.alone || a, twice := f1.twice || ns.contains u }) HG.out ((OnlyR.refl R _).set 2 _) (by rw [HTW.out, HCU.out]; exact RowAt.set HI4.out.rd 2 (.bool false) (by simp)) (Nat.le_refl _)
    have HI5 := hid hcut
    clear hcut HI4 t2 q2
    have hcul : ns.count u ≤ ns.length := List.count_le_length
    obtain ⟨cu, hcu⟩ : ∃ cu, ns.count u = cu := ⟨_, rfl⟩
    have hcub : (cu : Int) ≤ 100000001 := by omega
    have HCU := hid hcu
    clear hcu
    obtain ⟨w6, hput, hmp6, hg6⟩ := HI5.out.mp.put u hmxu (by omega)
    have hlk := HI5.out.mp.look u hmxu
    rw [HCU.out] at hput hlk
    have HMP6 := hid hmp6
    have HG6 := hid hg6
    have ha6 : Apart (fun k => k = g) _ w6 := Apart.ofGrown hg6 (fun k hk => by injection hk with e; exact e.symm)
    have hv6 := HI5.out.v.apart ha6 (by have := HG.out; omega)
    have hnm6 := HI5.out.nm.apart ha6 (fun k hk _ e => by omega)
    have hbs6 : g + 1 ≤ w6.heap.size := HMP6.out.lt
    have v7 := hv6.cell 7 _ rfl
    have y7 := hv6.free 7
    have HNM6 := hid hnm6
    have HV6 := hid hv6
    clear hv6 hnm6 ha6 hmp6 hg6
    go_wp2_with (at_builtin; go_must (refine wpList_append_name rfl _ _ rfl (g + 1) _ ns rfl HNM6.out u _ rfl rfl ?hlen hbs6 ?_))
    case hlen => omega
    intro nv2 w8 hnv hgr hfr
    obtain ⟨pn2, cn2, rfl⟩ := hnv.forms
    have HI8 := hid (HI5.out.name HG.out HW.out u _ HMP6.out HG6.out hnv hgr hfr HNQ.out)
    rw [show (ns ++ [u]).length = ns.length + 1 from by simp] at HI8
    have hvst : Apart (fun k => (Value.slice pn ns.length cn).ownBlock = some k) w6 w8 := (Apart.ofBelow (S := fun k => (Value.slice pn ns.length cn).ownBlock = some k) ((Below.refl _ _).alloc (Nat.le_refl _) _)).trans (Apart.ofGrown hgr (fun k hk => hk)) (fun _ _ h => h)
    have hv8 := HV6.out.apart hvst (fun e => by have := (World.ownsRow.lt HNM6.out g5 e).1; have := HG.out; omega)
    have v7b := hv8.cell 7 _ rfl
    have y7b := hv8.free 7
    clear hnv hgr hfr hvst hv8 v7 y7 HMP6 HG6 HNM6 HV6 HI5 hbs6
    go_wp2_with fail
    refine (nextP_calls _ HI8.out.rd [58] HK2.out).mono ?_
    rintro e w9 ⟨rfl, ho9, hr9⟩
    rw [show [(58 : UInt8)].contains 58 = true from rfl] at hr9
    simp only [if_true] at hr9
    have HI9 := hid (HI8.out.only (f' := { f1 with alone := f1.alone || a, twice := f1.twice || ns.contains u }) HG.out ho9 hr9 (by have h9 := congrArg List.length HK2.out; rw [List.length_cons] at h9; have := skip_len r1; omega))
    clear ho9 hr9 HI8 v7b y7b
    go_wp2_with fail
    go_meet
    exact ⟨_, by rw [HE1.out, HE2.out]; exact HI9.out⟩
  obtain ⟨nv3, hI3⟩ := hcut
  have HI3 := hid hI3
  obtain ⟨pn3, cn3, rfl⟩ := hI3.nm.forms
  clear hI3 v0 HI2 HMEM
  go_upto_region 9 with fail
  go_cut [] from 51 to 62 (fun wc => ValIP w wc R g5 g L obj v3 s3 f4 rs ns2 (.slice pn3 ns2.length cn3))
  case first =>
   have HIW := hid (HI3.out.below (Below.refl _ _).drew)
   refine wp_region_heldT [9, 10, 11, 12, 13] (S := (fun wq => wq.cell? ⟨g5, 6, none⟩ = some (Value.slice pl rs.length cl))) (by kernel_rfl) (HIW.out.v.cell 6 _ rfl) (fun hHeld0 => ?_)
   generalize wc.drew = wd at *
   refine heldT_ta 0 hHeld0 ?_
   refine heldT_ta 1 hHeld0 ?_
   refine heldT_ta 2 hHeld0 ?_
   refine heldT_ta 3 hHeld0 ?_
   refine heldT_ta 4 hHeld0 ?_
   refine heldT_ta 6 hHeld0 ?_
   refine heldT_two 5 7 rfl rfl (fun K hK => ?_) (fun K hK => ?_)
   ·
    go_simp
    refine (HVV.out n1 (by omega) wd R s2 d f3 v3 s3 f4 HIW.out.rd (by omega) HVAL.out).mono ?_
    rintro e9 w1 ⟨ho1, hr1, lv9, nv9, rfl, hj1⟩
    have HI1 := hid (HIW.out.only (f' := f4) HG.out ho1 hr1 (by omega))
    have HSZ := hid (show g + 1 ≤ wd.heap.size from HIW.out.mp.lt)
    have HLV : Hid (∀ k, (Value.slice pl rs.length cl).ownBlock = some k → k < wd.heap.size) := hid (fun k hk => (HIW.out.js.lt hk).2)
    have HNV : Hid (∀ k, (Value.slice pn3 ns2.length cn3).ownBlock = some k → k < wd.heap.size) := hid (fun k hk => (World.ownsRow.lt HIW.out.nm k hk).2)
    have HJV := hid hj1
    obtain ⟨kd, bb, ⟨ng, dg, ex⟩, tx, l2, ns9⟩ := v3
    obtain ⟨p1, c1, p2, c2e, e1, e2⟩ := HJV.out.slices
    simp only at e1 e2
    subst e1 e2
    simp only [jval, J.kind, J.b, J.n, J.t]
    clear ho1 hr1 hj1
    refine hK.out _ _ (HI1.out.v.cell 6 _ rfl) (fun hHeld1 => ?_)
    clear hK K hHeld0
    refine heldT_step 7 rfl (fun K hK => ?_)
    go_simp
    have hb2 : Below w1.heap.size w1 (w1.alloc (Obj.cells #[Value.int IntKind.i64 0, Value.bool false, Value.bool false, Value.string { data := #[] }, Value.int IntKind.i64 0, Value.string { data := #[] }, Value.slice none 0 0, Value.slice none 0 0] 30)) := (Below.refl _ _).alloc (Nat.le_refl _) _
    have HI2 := hid (HI1.out.below hb2)
    have HC2 := hid (RowAt.new w1 #[Value.int IntKind.i64 0, Value.bool false, Value.bool false, Value.string { data := #[] }, Value.int IntKind.i64 0, Value.string { data := #[] }, Value.slice none 0 0, Value.slice none 0 0] 30)
    have HGC : Hid (g < w1.heap.size) := hid HI1.out.mp.lt
    have HJ2 := hid (HJV.out.bel hb2)
    obtain ⟨gc, hgc⟩ : ∃ g, w1.heap.size = g := ⟨_, rfl⟩
    rw [hgc] at HC2 HGC ⊢
    generalize (w1.alloc (Obj.cells #[Value.int IntKind.i64 0, Value.bool false, Value.bool false, Value.string { data := #[] }, Value.int IntKind.i64 0, Value.string { data := #[] }, Value.slice none 0 0, Value.slice none 0 0] 30)) = w2 at *
    clear hb2 hgc
    refine hK.out _ _ (HI2.out.v.cell 6 _ rfl) (fun hHeld2 => ?_)
    clear hK K hHeld1
    refine heldT_step 8 rfl (fun K hK => ?_)
    refine oper_append_json _ _ rfl (g + 1) (SepS g (.slice pn3 ns2.length cn3)) _ rs rfl HI2.out.js (J.zero, .slice none 0 0, .slice none 0 0) (JV.leaf _ _ 0 false Dec.zero []) gc 1 rfl ?hcs ?hlen ?hbs (fun v3 w3 h1 h2 h3 => ?_)
    case hcs =>
     intro i hi
     match i, hi with
     | 0, _ => exact HC2.out.cell 0 _ rfl
     | 1, _ => exact HC2.out.cell 1 _ rfl
     | 2, _ => exact HC2.out.cell 2 _ rfl
     | 3, _ => exact HC2.out.cell 3 _ rfl
     | 4, _ => exact HC2.out.cell 4 _ rfl
     | 5, _ => exact HC2.out.cell 5 _ rfl
     | 6, _ => exact HC2.out.cell 6 _ rfl
     | 7, _ => exact HC2.out.cell 7 _ rfl
    case hlen => have := HI2.out.lr; omega
    case hbs => exact HI2.out.mp.lt
    obtain ⟨p8, cv, rfl⟩ : ∃ p8 cv, v3 = .slice (some ⟨p8, 0, none⟩) (rs.length + 1) cv := by
     rcases h1.row.2 with ⟨_, h9⟩ | ⟨g9, c9, cu9, h9, _⟩
     ·rw [List.length_append, List.length_singleton] at h9; omega
     rw [List.length_append, List.length_singleton] at h9; exact ⟨g9, c9, h9⟩
    have HJS := hid h1
    have HGR := hid h2
    have HFR := hid h3
    have hjr : JV w3 (fun k => SepS g (.slice pn3 ns2.length cn3) k ∧ k ≠ p8) (J.mk kd bb ⟨ng, dg, ex⟩ tx l2 ns9, Value.slice p1 (J.mk kd bb ⟨ng, dg, ex⟩ tx l2 ns9).l.length c1, Value.slice p2 (J.mk kd bb ⟨ng, dg, ex⟩ tx l2 ns9).ns.length c2e) := by
     have h5 := (HJ2.out.mono (S' := fun k => (SepS g (.slice pn3 ns2.length cn3) k ∧ ¬ (Value.slice pl rs.length cl).ownBlock = some k) ∧ k < w2.heap.size) (fun k hk hs => ⟨⟨⟨Nat.le_trans HSZ.out hs, fun e => by have := HNV.out k e; omega⟩, fun e => by have := HLV.out k e; omega⟩, hk⟩)).apart (Apart.ofGrown (S := fun k => (Value.slice pl rs.length cl).ownBlock = some k) HGR.out (fun k hk => hk)) (fun k hk _ e => hk.1.2 e)
     refine h5.mono (fun k _ hk => ⟨hk.1.1, fun e => ?_⟩)
     rcases HFR.out p8 rfl with h9 | h9
     ·exact hk.1.2 (by rw [e]; exact h9)
     have := hk.2; omega
    have HJR := hid hjr
    have hvr := HI2.out.v.apart (Apart.ofGrown (S := fun k => (Value.slice pl rs.length cl).ownBlock = some k) HGR.out (fun k hk => hk)) (fun e => by have := (HI2.out.js.lt e).1; have := HG.out; omega)
    have HVR := hid hvr
    have hp8 : g + 1 ≤ p8 := (HJS.out.lt rfl).1
    have hlti : (rs.length : Int) < (rs.length : Int) + 1 := by omega
    clear h1 h2 h3 hjr hvr
    simp only [Act.put, List.setIfInBounds_toArray, List.set_cons_zero, List.set_cons_succ]
    refine hK.out _ _ (HVR.out.cell 6 _ rfl) (fun hHeld3 => ?_)
    clear hK K hHeld2
    refine heldT_late ?_
    clear hHeld3
    have hHeld4 : True := trivial
    refine held_ta 9 hHeld4 ?_
    refine held_ta 11 hHeld4 ?_
    refine held_ta 12 hHeld4 ?_
    have hcs8 : ∀ j, j < 8 → (w3.cell? ⟨p8, rs.length * 8 + j, none⟩).isSome = true := fun j hj => by
     have h9 := HJS.out.row
     rw [show (rs ++ [(J.zero, Value.slice none 0 0, Value.slice none 0 0)]).length = rs.length + 1 from by simp] at h9
     rw [World.ownsRow.cellAt h9 (rs.length * 8 + j) (by omega)]
     rw [List.getElem?_eq_getElem (by rw [jrow_len, List.length_append, List.length_singleton]; omega)]; rfl
    have hfs8 : ∀ j, j < 8 → w3.frozen? ⟨p8, rs.length * 8 + j, none⟩ = false := fun j hj => by
     have h9 := HJS.out.row
     rw [show (rs ++ [(J.zero, Value.slice none 0 0, Value.slice none 0 0)]).length = rs.length + 1 from by simp] at h9
     exact World.ownsRow.frozenAt h9 _
    have hvq := HVR.out
    have z6 := hvq.cell 6 _ rfl
    have y6 := hvq.free 6
    clear hvq
    refine held_two (i := 10) (j := 13) (by kernel_rfl) rfl rfl (by rfl) (by rfl) (fun K hK => ?_) (fun K hK => ?_)
    ·
     refine oper_store8At _ _ rfl rfl (.int .i64 kd) (.bool bb) (.bool ng) (.string ⟨dg.toArray⟩) (.int .i64 ex) (.string ⟨tx.toArray⟩) (.slice p1 _ c1) (.slice p2 _ c2e) hcs8 hfs8 rfl rfl rfl ?_
     clear hcs8 hfs8
     obtain ⟨wX, hwX⟩ : ∃ wX, w3.setCells p8 (rs.length * 8) (jcells (J.mk kd bb ⟨ng, dg, ex⟩ tx l2 ns9, Value.slice p1 (J.mk kd bb ⟨ng, dg, ex⟩ tx l2 ns9).l.length c1, Value.slice p2 (J.mk kd bb ⟨ng, dg, ex⟩ tx l2 ns9).ns.length c2e)) = wX := ⟨_, rfl⟩
     change K _ (w3.setCells p8 (rs.length * 8) (jcells (J.mk kd bb ⟨ng, dg, ex⟩ tx l2 ns9, Value.slice p1 (J.mk kd bb ⟨ng, dg, ex⟩ tx l2 ns9).l.length c1, Value.slice p2 (J.mk kd bb ⟨ng, dg, ex⟩ tx l2 ns9).ns.length c2e)))
     rw [hwX]
     have HWX := hid hwX
     clear hwX
     refine hK.out _ _ trivial (fun hHeld5 => ?_)
     clear hK K hHeld4
     have hvq := HVR.out.apart (Apart.cells (S := fun k => k = p8) rfl (jcells (J.mk kd bb ⟨ng, dg, ex⟩ tx l2 ns9, Value.slice p1 (J.mk kd bb ⟨ng, dg, ex⟩ tx l2 ns9).l.length c1, Value.slice p2 (J.mk kd bb ⟨ng, dg, ex⟩ tx l2 ns9).ns.length c2e)) (rs.length * 8) w3) (by have := HG.out; omega)
     rw [HWX.out] at hvq
     have z6 := hvq.cell 6 _ rfl
     have y6 := hvq.free 6
     clear hvq
     refine held_st 13 rfl (fun K hK => ?_)
     go_simp
     clear z6 y6
     obtain ⟨wY, hwY⟩ : ∃ wY, wX.setCell ⟨g5, 6, none⟩ (.slice (some ⟨p8, 0, none⟩) (rs.length + 1) cv) = wY := ⟨_, rfl⟩
     rw [hwY]
     have HWY := hid hwY
     clear hwY
     refine hK.out _ _ trivial (fun hHeld6 => ?_)
     clear hK K hHeld5
     refine wpAnyH_done (by kernel_rfl) ?_ _
     clear hHeld6
     go_wp2_with fail
     go_meet
     have hfin := HI2.out.value HG.out HW.out (J.mk kd bb ⟨ng, dg, ex⟩ tx l2 ns9, Value.slice p1 (J.mk kd bb ⟨ng, dg, ex⟩ tx l2 ns9).l.length c1, Value.slice p2 (J.mk kd bb ⟨ng, dg, ex⟩ tx l2 ns9).ns.length c2e) HJS.out HGR.out HJR.out (by have := HI3.out.lr; omega)
     rw [HWX.out, HWY.out] at hfin
     exact ⟨_, _, _, hfin⟩
    go_simp
    clear z6 y6
    obtain ⟨wY, hwY⟩ : ∃ wY, w3.setCell ⟨g5, 6, none⟩ (.slice (some ⟨p8, 0, none⟩) (rs.length + 1) cv) = wY := ⟨_, rfl⟩
    rw [hwY]
    have HWY := hid hwY
    clear hwY
    refine hK.out _ _ trivial (fun hHeld5 => ?_)
    clear hK K hHeld4
    have hcs8 : ∀ j, j < 8 → (wY.cell? ⟨p8, rs.length * 8 + j, none⟩).isSome = true := fun j hj => by
     rw [← HWY.out, World.cell?_setCell_other _ _ _ _ (fun e => by injection e with e _; have := HG.out; omega)]
     have h9 := HJS.out.row
     rw [show (rs ++ [(J.zero, Value.slice none 0 0, Value.slice none 0 0)]).length = rs.length + 1 from by simp] at h9
     rw [World.ownsRow.cellAt h9 (rs.length * 8 + j) (by omega)]
     rw [List.getElem?_eq_getElem (by rw [jrow_len, List.length_append, List.length_singleton]; omega)]; rfl
    have hfs8 : ∀ j, j < 8 → wY.frozen? ⟨p8, rs.length * 8 + j, none⟩ = false := fun j hj => by
     rw [← HWY.out, World.frozen?_setCell]
     have h9 := HJS.out.row
     rw [show (rs ++ [(J.zero, Value.slice none 0 0, Value.slice none 0 0)]).length = rs.length + 1 from by simp] at h9
     exact World.ownsRow.frozenAt h9 _
    refine held_st 10 rfl (fun K hK => ?_)
    refine oper_store8At _ _ rfl rfl (.int .i64 kd) (.bool bb) (.bool ng) (.string ⟨dg.toArray⟩) (.int .i64 ex) (.string ⟨tx.toArray⟩) (.slice p1 _ c1) (.slice p2 _ c2e) hcs8 hfs8 rfl rfl rfl ?_
    clear hcs8 hfs8
    obtain ⟨wX, hwX⟩ : ∃ wX, wY.setCells p8 (rs.length * 8) (jcells (J.mk kd bb ⟨ng, dg, ex⟩ tx l2 ns9, Value.slice p1 (J.mk kd bb ⟨ng, dg, ex⟩ tx l2 ns9).l.length c1, Value.slice p2 (J.mk kd bb ⟨ng, dg, ex⟩ tx l2 ns9).ns.length c2e)) = wX := ⟨_, rfl⟩
    change K _ (wY.setCells p8 (rs.length * 8) (jcells (J.mk kd bb ⟨ng, dg, ex⟩ tx l2 ns9, Value.slice p1 (J.mk kd bb ⟨ng, dg, ex⟩ tx l2 ns9).l.length c1, Value.slice p2 (J.mk kd bb ⟨ng, dg, ex⟩ tx l2 ns9).ns.length c2e)))
    rw [hwX]
    have HWX := hid hwX
    clear hwX
    refine hK.out _ _ trivial (fun hHeld6 => ?_)
    clear hK K hHeld5
    refine wpAnyH_done (by kernel_rfl) ?_ _
    clear hHeld6
    go_wp2_with fail
    go_meet
    have hfin := HI2.out.value HG.out HW.out (J.mk kd bb ⟨ng, dg, ex⟩ tx l2 ns9, Value.slice p1 (J.mk kd bb ⟨ng, dg, ex⟩ tx l2 ns9).l.length c1, Value.slice p2 (J.mk kd bb ⟨ng, dg, ex⟩ tx l2 ns9).ns.length c2e) HJS.out HGR.out HJR.out (by have := HI3.out.lr; omega)
    rw [← setCells_comm p8 ⟨g5, 6, none⟩ _ (by show g5 ≠ p8; have := HG.out; omega)] at hfin
    rw [HWY.out, HWX.out] at hfin
    exact ⟨_, _, _, hfin⟩
   go_simp
   have hb4 : Below wd.heap.size wd (wd.alloc (Obj.cells #[Value.int IntKind.i64 0, Value.bool false, Value.bool false, Value.string { data := #[] }, Value.int IntKind.i64 0, Value.string { data := #[] }, Value.slice none 0 0, Value.slice none 0 0] 30)) := (Below.refl _ _).alloc (Nat.le_refl _) _
   have HI4 := hid (HIW.out.below hb4)
   have HC4 := hid (RowAt.new wd #[Value.int IntKind.i64 0, Value.bool false, Value.bool false, Value.string { data := #[] }, Value.int IntKind.i64 0, Value.string { data := #[] }, Value.slice none 0 0, Value.slice none 0 0] 30)
   have HGC : Hid (g < wd.heap.size) := hid HIW.out.mp.lt
   obtain ⟨gc, hgc⟩ : ∃ g, wd.heap.size = g := ⟨_, rfl⟩
   rw [hgc] at HC4 HGC ⊢
   generalize (wd.alloc (Obj.cells #[Value.int IntKind.i64 0, Value.bool false, Value.bool false, Value.string { data := #[] }, Value.int IntKind.i64 0, Value.string { data := #[] }, Value.slice none 0 0, Value.slice none 0 0] 30)) = w4 at *
   clear hb4 hgc
   refine hK.out _ _ (HI4.out.v.cell 6 _ rfl) (fun hHeld1 => ?_)
   clear hK K hHeld0
   refine heldT_step 5 rfl (fun K hK => ?_)
   go_simp
   refine (HVV.out n1 (by omega) w4 R s2 d f3 v3 s3 f4 HI4.out.rd (by omega) HVAL.out).mono ?_
   rintro e9 w5 ⟨ho5, hr5, lv9, nv9, rfl, hj5⟩
   have HI5 := hid (HI4.out.only (f' := f4) HG.out ho5 hr5 (by omega))
   have HSZ := hid (show g + 1 ≤ w4.heap.size from HI4.out.mp.lt)
   have HLV : Hid (∀ k, (Value.slice pl rs.length cl).ownBlock = some k → k < w4.heap.size) := hid (fun k hk => (HI4.out.js.lt hk).2)
   have HNV : Hid (∀ k, (Value.slice pn3 ns2.length cn3).ownBlock = some k → k < w4.heap.size) := hid (fun k hk => (World.ownsRow.lt HI4.out.nm k hk).2)
   have HJV := hid hj5
   have HC5 := hid (HC4.out.apart ho5 (fun e => by have := HGC.out; have := HG.out; omega))
   obtain ⟨kd, bb, ⟨ng, dg, ex⟩, tx, l2, ns9⟩ := v3
   obtain ⟨p1, c1, p2, c2e, e1, e2⟩ := HJV.out.slices
   simp only at e1 e2
   subst e1 e2
   simp only [jval, J.kind, J.b, J.n, J.t]
   clear ho5 hr5 hj5
   refine hK.out _ _ (HI5.out.v.cell 6 _ rfl) (fun hHeld2 => ?_)
   clear hK K hHeld1
   refine heldT_step 8 rfl (fun K hK => ?_)
   refine oper_append_json _ _ rfl (g + 1) (SepS g (.slice pn3 ns2.length cn3)) _ rs rfl HI5.out.js (J.zero, .slice none 0 0, .slice none 0 0) (JV.leaf _ _ 0 false Dec.zero []) gc 1 rfl ?hcs ?hlen ?hbs (fun v6 w6 h1 h2 h3 => ?_)
   case hcs =>
    intro i hi
    match i, hi with
    | 0, _ => exact HC5.out.cell 0 _ rfl
    | 1, _ => exact HC5.out.cell 1 _ rfl
    | 2, _ => exact HC5.out.cell 2 _ rfl
    | 3, _ => exact HC5.out.cell 3 _ rfl
    | 4, _ => exact HC5.out.cell 4 _ rfl
    | 5, _ => exact HC5.out.cell 5 _ rfl
    | 6, _ => exact HC5.out.cell 6 _ rfl
    | 7, _ => exact HC5.out.cell 7 _ rfl
   case hlen => have := HI5.out.lr; omega
   case hbs => exact HI5.out.mp.lt
   obtain ⟨p8, cv, rfl⟩ : ∃ p8 cv, v6 = .slice (some ⟨p8, 0, none⟩) (rs.length + 1) cv := by
    rcases h1.row.2 with ⟨_, h9⟩ | ⟨g9, c9, cu9, h9, _⟩
    ·rw [List.length_append, List.length_singleton] at h9; omega
    rw [List.length_append, List.length_singleton] at h9; exact ⟨g9, c9, h9⟩
   have HJS := hid h1
   have HGR := hid h2
   have HFR := hid h3
   have hjr : JV w6 (fun k => SepS g (.slice pn3 ns2.length cn3) k ∧ k ≠ p8) (J.mk kd bb ⟨ng, dg, ex⟩ tx l2 ns9, Value.slice p1 (J.mk kd bb ⟨ng, dg, ex⟩ tx l2 ns9).l.length c1, Value.slice p2 (J.mk kd bb ⟨ng, dg, ex⟩ tx l2 ns9).ns.length c2e) := by
    have h5 := (HJV.out.mono (S' := fun k => (SepS g (.slice pn3 ns2.length cn3) k ∧ ¬ (Value.slice pl rs.length cl).ownBlock = some k) ∧ k < w5.heap.size) (fun k hk hs => ⟨⟨⟨Nat.le_trans HSZ.out hs, fun e => by have := HNV.out k e; omega⟩, fun e => by have := HLV.out k e; omega⟩, hk⟩)).apart (Apart.ofGrown (S := fun k => (Value.slice pl rs.length cl).ownBlock = some k) HGR.out (fun k hk => hk)) (fun k hk _ e => hk.1.2 e)
    refine h5.mono (fun k _ hk => ⟨hk.1.1, fun e => ?_⟩)
    rcases HFR.out p8 rfl with h9 | h9
    ·exact hk.1.2 (by rw [e]; exact h9)
    have := hk.2; omega
   have HJR := hid hjr
   have hvr := HI5.out.v.apart (Apart.ofGrown (S := fun k => (Value.slice pl rs.length cl).ownBlock = some k) HGR.out (fun k hk => hk)) (fun e => by have := (HI5.out.js.lt e).1; have := HG.out; omega)
   have HVR := hid hvr
   have hp8 : g + 1 ≤ p8 := (HJS.out.lt rfl).1
   have hlti : (rs.length : Int) < (rs.length : Int) + 1 := by omega
   clear h1 h2 h3 hjr hvr
   simp only [Act.put, List.setIfInBounds_toArray, List.set_cons_zero, List.set_cons_succ]
   refine hK.out _ _ (HVR.out.cell 6 _ rfl) (fun hHeld3 => ?_)
   clear hK K hHeld2
   refine heldT_late ?_
   clear hHeld3
   have hHeld4 : True := trivial
   refine held_ta 9 hHeld4 ?_
   refine held_ta 11 hHeld4 ?_
   refine held_ta 12 hHeld4 ?_
   have hcs8 : ∀ j, j < 8 → (w6.cell? ⟨p8, rs.length * 8 + j, none⟩).isSome = true := fun j hj => by
    have h9 := HJS.out.row
    rw [show (rs ++ [(J.zero, Value.slice none 0 0, Value.slice none 0 0)]).length = rs.length + 1 from by simp] at h9
    rw [World.ownsRow.cellAt h9 (rs.length * 8 + j) (by omega)]
    rw [List.getElem?_eq_getElem (by rw [jrow_len, List.length_append, List.length_singleton]; omega)]; rfl
   have hfs8 : ∀ j, j < 8 → w6.frozen? ⟨p8, rs.length * 8 + j, none⟩ = false := fun j hj => by
    have h9 := HJS.out.row
    rw [show (rs ++ [(J.zero, Value.slice none 0 0, Value.slice none 0 0)]).length = rs.length + 1 from by simp] at h9
    exact World.ownsRow.frozenAt h9 _
   have hvq := HVR.out
   have z6 := hvq.cell 6 _ rfl
   have y6 := hvq.free 6
   clear hvq
   refine held_two (i := 10) (j := 13) (by kernel_rfl) rfl rfl (by rfl) (by rfl) (fun K hK => ?_) (fun K hK => ?_)
   ·
    refine oper_store8At _ _ rfl rfl (.int .i64 kd) (.bool bb) (.bool ng) (.string ⟨dg.toArray⟩) (.int .i64 ex) (.string ⟨tx.toArray⟩) (.slice p1 _ c1) (.slice p2 _ c2e) hcs8 hfs8 rfl rfl rfl ?_
    clear hcs8 hfs8
    obtain ⟨wX, hwX⟩ : ∃ wX, w6.setCells p8 (rs.length * 8) (jcells (J.mk kd bb ⟨ng, dg, ex⟩ tx l2 ns9, Value.slice p1 (J.mk kd bb ⟨ng, dg, ex⟩ tx l2 ns9).l.length c1, Value.slice p2 (J.mk kd bb ⟨ng, dg, ex⟩ tx l2 ns9).ns.length c2e)) = wX := ⟨_, rfl⟩
    change K _ (w6.setCells p8 (rs.length * 8) (jcells (J.mk kd bb ⟨ng, dg, ex⟩ tx l2 ns9, Value.slice p1 (J.mk kd bb ⟨ng, dg, ex⟩ tx l2 ns9).l.length c1, Value.slice p2 (J.mk kd bb ⟨ng, dg, ex⟩ tx l2 ns9).ns.length c2e)))
    rw [hwX]
    have HWX := hid hwX
    clear hwX
    refine hK.out _ _ trivial (fun hHeld5 => ?_)
    clear hK K hHeld4
    have hvq := HVR.out.apart (Apart.cells (S := fun k => k = p8) rfl (jcells (J.mk kd bb ⟨ng, dg, ex⟩ tx l2 ns9, Value.slice p1 (J.mk kd bb ⟨ng, dg, ex⟩ tx l2 ns9).l.length c1, Value.slice p2 (J.mk kd bb ⟨ng, dg, ex⟩ tx l2 ns9).ns.length c2e)) (rs.length * 8) w6) (by have := HG.out; omega)
    rw [HWX.out] at hvq
    have z6 := hvq.cell 6 _ rfl
    have y6 := hvq.free 6
    clear hvq
    refine held_st 13 rfl (fun K hK => ?_)
    go_simp
    clear z6 y6
    obtain ⟨wY, hwY⟩ : ∃ wY, wX.setCell ⟨g5, 6, none⟩ (.slice (some ⟨p8, 0, none⟩) (rs.length + 1) cv) = wY := ⟨_, rfl⟩
    rw [hwY]
    have HWY := hid hwY
    clear hwY
    refine hK.out _ _ trivial (fun hHeld6 => ?_)
    clear hK K hHeld5
    refine wpAnyH_done (by kernel_rfl) ?_ _
    clear hHeld6
    go_wp2_with fail
    go_meet
    have hfin := HI5.out.value HG.out HW.out (J.mk kd bb ⟨ng, dg, ex⟩ tx l2 ns9, Value.slice p1 (J.mk kd bb ⟨ng, dg, ex⟩ tx l2 ns9).l.length c1, Value.slice p2 (J.mk kd bb ⟨ng, dg, ex⟩ tx l2 ns9).ns.length c2e) HJS.out HGR.out HJR.out (by have := HI3.out.lr; omega)
    rw [HWX.out, HWY.out] at hfin
    exact ⟨_, _, _, hfin⟩
   go_simp
   clear z6 y6
   obtain ⟨wY, hwY⟩ : ∃ wY, w6.setCell ⟨g5, 6, none⟩ (.slice (some ⟨p8, 0, none⟩) (rs.length + 1) cv) = wY := ⟨_, rfl⟩
   rw [hwY]
   have HWY := hid hwY
   clear hwY
   refine hK.out _ _ trivial (fun hHeld5 => ?_)
   clear hK K hHeld4
   have hcs8 : ∀ j, j < 8 → (wY.cell? ⟨p8, rs.length * 8 + j, none⟩).isSome = true := fun j hj => by
    rw [← HWY.out, World.cell?_setCell_other _ _ _ _ (fun e => by injection e with e _; have := HG.out; omega)]
    have h9 := HJS.out.row
    rw [show (rs ++ [(J.zero, Value.slice none 0 0, Value.slice none 0 0)]).length = rs.length + 1 from by simp] at h9
    rw [World.ownsRow.cellAt h9 (rs.length * 8 + j) (by omega)]
    rw [List.getElem?_eq_getElem (by rw [jrow_len, List.length_append, List.length_singleton]; omega)]; rfl
   have hfs8 : ∀ j, j < 8 → wY.frozen? ⟨p8, rs.length * 8 + j, none⟩ = false := fun j hj => by
    rw [← HWY.out, World.frozen?_setCell]
    have h9 := HJS.out.row
    rw [show (rs ++ [(J.zero, Value.slice none 0 0, Value.slice none 0 0)]).length = rs.length + 1 from by simp] at h9
    exact World.ownsRow.frozenAt h9 _
   refine held_st 10 rfl (fun K hK => ?_)
   refine oper_store8At _ _ rfl rfl (.int .i64 kd) (.bool bb) (.bool ng) (.string ⟨dg.toArray⟩) (.int .i64 ex) (.string ⟨tx.toArray⟩) (.slice p1 _ c1) (.slice p2 _ c2e) hcs8 hfs8 rfl rfl rfl ?_
   clear hcs8 hfs8
   obtain ⟨wX, hwX⟩ : ∃ wX, wY.setCells p8 (rs.length * 8) (jcells (J.mk kd bb ⟨ng, dg, ex⟩ tx l2 ns9, Value.slice p1 (J.mk kd bb ⟨ng, dg, ex⟩ tx l2 ns9).l.length c1, Value.slice p2 (J.mk kd bb ⟨ng, dg, ex⟩ tx l2 ns9).ns.length c2e)) = wX := ⟨_, rfl⟩
   change K _ (wY.setCells p8 (rs.length * 8) (jcells (J.mk kd bb ⟨ng, dg, ex⟩ tx l2 ns9, Value.slice p1 (J.mk kd bb ⟨ng, dg, ex⟩ tx l2 ns9).l.length c1, Value.slice p2 (J.mk kd bb ⟨ng, dg, ex⟩ tx l2 ns9).ns.length c2e)))
   rw [hwX]
   have HWX := hid hwX
   clear hwX
   refine hK.out _ _ trivial (fun hHeld6 => ?_)
   clear hK K hHeld5
   refine wpAnyH_done (by kernel_rfl) ?_ _
   clear hHeld6
   go_wp2_with fail
   go_meet
   have hfin := HI5.out.value HG.out HW.out (J.mk kd bb ⟨ng, dg, ex⟩ tx l2 ns9, Value.slice p1 (J.mk kd bb ⟨ng, dg, ex⟩ tx l2 ns9).l.length c1, Value.slice p2 (J.mk kd bb ⟨ng, dg, ex⟩ tx l2 ns9).ns.length c2e) HJS.out HGR.out HJR.out (by have := HI3.out.lr; omega)
   rw [← setCells_comm p8 ⟨g5, 6, none⟩ _ (by show g5 ≠ p8; have := HG.out; omega)] at hfin
   rw [HWY.out, HWX.out] at hfin
   exact ⟨_, _, _, hfin⟩
  obtain ⟨lv3, nv3, lv4, hI4⟩ := hcut
  have HI4 := hid hI4
  obtain ⟨pl4, cl4, rfl⟩ := hI4.js.forms
  clear hI4 HI3
  obtain ⟨c9, t9, hc9, _⟩ := loop_some HLOOP.out
  go_wp2_with fail
  refine (nextP_calls _ HI4.out.rd [] hc9).mono ?_
  rintro e w9 ⟨rfl, ho9, hr9⟩
  simp only [List.contains_nil, Bool.false_eq_true, if_false] at hr9
  have HI9 := hid (HI4.out.only (f' := f4) HG.out ho9 hr9 (by rw [← hc9]; exact skip_len s3))
  have HLO := hid (loopS_skip (z := [0]) (n := n1) (d := d) (obj := obj) (first := false) (ls := rs.map (·.1) ++ [v3]) (ns := ns2) (f := f4) hc9)
  clear ho9 hr9 HI4 hc9
  go_wp2_with fail
  go_roundg (n1 + 1)
  case measure => have := Hkk.out; omega
  exact ⟨n1, false, c9 :: t9, f4, _, ns2, _, _, rfl, by omega, HI9.out, by rw [List.map_append]; exact HLO.out.trans HLOOP.out⟩
end Go.Proofs.YtfclfaidmipjpaaGreatDoor
