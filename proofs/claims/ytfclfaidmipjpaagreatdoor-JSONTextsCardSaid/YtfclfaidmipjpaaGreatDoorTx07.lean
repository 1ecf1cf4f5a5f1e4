/- Texts of this claim, joined: Jr9. -/
import Derived.Test.YtfclfaidmipjpaaGreatDoorCo22
import Derived.Test.YtfclfaidmipjpaaGreatDoorTx03
import Derived.Test.YtfclfaidmipjpaaGreatDoorTx06
namespace Go.Proofs.YtfclfaidmipjpaaGreatDoor
set_option maxRecDepth 100000
set_option maxHeartbeats 20000000
open Go.RowKit
def NumTo (w : World) (R : Nat) (b : List UInt8) (n : Nat) (f : Fl) (e : Ending) (w' : World) : Prop :=
 OnlyR R w w' ∧ ∃ (D : Dec) (m : Nat) (bad : Bool) (f2 : Fl), e = .returned (jval (.mk 2 false D [] [] [], .slice none 0 0, .slice none 0 0)) ∧ n ≤ m ∧ m ≤ b.length ∧ RdAt w' R b m bad f2 ∧
  ((bad = true ∧ numS (b.drop n) f = none) ∨ (bad = false ∧ numS (b.drop n) f = some (.mk 2 false D [] [] [], b.drop m, f2)))
structure NumI (w wr : World) (R g2 : Nat) (b : List UInt8) (m : Nat) (bad : Bool) (f : Fl) : Prop where
 rd : RdAt wr R b m bad f
 on : OnlyR R w wr
 res : RowAt wr g2 jz
theorem NumI.below {w wr w' : World} {R g2 : Nat} {b : List UInt8} {m : Nat} {bad : Bool} {f : Fl} (h : NumI w wr R g2 b m bad f) (hb : Below wr.heap.size wr w') : NumI w w' R g2 b m bad f :=
 ⟨h.rd.below hb, h.on.trans (OnlyR.ofBelow hb), h.res.below hb⟩
theorem NumI.only {w wr w' : World} {R g2 : Nat} {b : List UInt8} {m m2 : Nat} {bad bad2 : Bool} {f f2 : Fl} (h : NumI w wr R g2 b m bad f) (hg : R < g2) (ho : OnlyR R wr w') (hr : RdAt w' R b m2 bad2 f2) : NumI w w' R g2 b m2 bad2 f2 :=
 ⟨hr, h.on.trans ho, h.res.apart ho (by show ¬ g2 = R; omega)⟩
theorem NumI.ret {w wr : World} {R g2 : Nat} {b : List UInt8} {m : Nat} {bad : Bool} {f : Fl} (h : NumI w wr R g2 b m bad f) (hg : R < g2) (hw : w.heap.size ≤ g2) (x0 x1 x2 x3 x4 x5 x6 x7 : Value) :
  OnlyR R w (set8 wr g2 x0 x1 x2 x3 x4 x5 x6 x7) ∧ RdAt (set8 wr g2 x0 x1 x2 x3 x4 x5 x6 x7) R b m bad f :=
 ⟨h.on.trans' (set8_apart wr g2 x0 x1 x2 x3 x4 x5 x6 x7) (fun i hi e => by omega), h.rd.apart (set8_apart wr g2 x0 x1 x2 x3 x4 x5 x6 x7) (by show ¬ R = g2; omega)⟩
theorem while_in (b : List UInt8) (n m : Nat) (hm : m < b.length) (hnm : n ≤ m) (hc : numB (b.getD m 0) = true) (h1 : (b.drop n).takeWhile numB = (b.drop n).take (m - n) ++ (b.drop m).takeWhile numB) (h2 : (b.drop n).dropWhile numB = (b.drop m).dropWhile numB) :
  (b.drop n).takeWhile numB = (b.drop n).take (m + 1 - n) ++ (b.drop (m + 1)).takeWhile numB ∧ (b.drop n).dropWhile numB = (b.drop (m + 1)).dropWhile numB := by
 rw [drop_at hm, List.takeWhile_cons, if_pos hc] at h1
 rw [drop_at hm, List.dropWhile_cons, if_pos hc] at h2
 refine ⟨?_, h2⟩
 have e : m + 1 - n = (m - n) + 1 := by omega
 have e2 : (b.drop n).take (m - n + 1) = (b.drop n).take (m - n) ++ [b.getD m 0] := by
  rw [take_one _ _ (by rw [List.length_drop]; omega)]
  congr 2
  simp only [List.getD_eq_getElem?_getD, List.getElem?_drop]
  rw [show n + (m - n) = m from by omega]
 rw [e, e2, h1, List.append_assoc]; rfl
theorem while_out (b : List UInt8) (n m : Nat) (hc : b.length ≤ m ∨ numB (b.getD m 0) = false) (h1 : (b.drop n).takeWhile numB = (b.drop n).take (m - n) ++ (b.drop m).takeWhile numB) (h2 : (b.drop n).dropWhile numB = (b.drop m).dropWhile numB) :
  (b.drop n).takeWhile numB = (b.drop n).take (m - n) ∧ (b.drop n).dropWhile numB = b.drop m := by
 rcases Nat.lt_or_ge m b.length with h | h
 ·have hc2 : ¬ numB (b.getD m 0) = true := by
   rcases hc with h9 | h9
   ·omega
   ·rw [h9]; decide
  rw [drop_at h, List.takeWhile_cons, if_neg hc2, List.append_nil] at h1
  rw [drop_at h, List.dropWhile_cons, if_neg hc2] at h2
  rw [drop_at h]
  exact ⟨h1, h2⟩
 ·rw [List.drop_of_length_le h, List.takeWhile_nil, List.append_nil] at h1
  rw [List.drop_of_length_le h] at h2 ⊢
  exact ⟨h1, h2⟩
theorem number_calls (w : World) {R : Nat} {b : List UInt8} {n : Nat} {f : Fl} (h : RdAt w R b n false f) (hn : n ≤ b.length) (hl : b.length ≤ 1000000000) :
  Calls Tryz.prog 89 #[.pointer (some ⟨R, 0, none⟩)] w (NumTo w R b n f) := by
 have hRw := h.lt
 have hr0 := RowAt.new w jz.toArray 30
 have hb0 : Below w.heap.size w (w.alloc (Obj.cells #[Value.int IntKind.i64 0, Value.bool false, Value.bool false, Value.string { data := #[] }, Value.int IntKind.i64 0, Value.string { data := #[] }, Value.slice none 0 0, Value.slice none 0 0] 30)) := (Below.refl _ _).alloc (Nat.le_refl _) _
 have HI0 : Hid (NumI w (w.alloc (Obj.cells #[Value.int IntKind.i64 0, Value.bool false, Value.bool false, Value.string { data := #[] }, Value.int IntKind.i64 0, Value.string { data := #[] }, Value.slice none 0 0, Value.slice none 0 0] 30)) R w.heap.size b n false f) := Lib.hid ⟨h.below hb0, OnlyR.ofBelow hb0, hr0⟩
 have HG : Hid (R < w.heap.size) := Lib.hid hRw
 have HGW : Hid (w.heap.size ≤ w.heap.size) := Lib.hid (Nat.le_refl _)
 clear hr0 hb0 h hRw
 go_enter Tryz.func89, Tryz.ntmps89
 go_upto_region 1 with fail
 have HG2 : Hid (∃ g, w.heap.size = g ∧ R < g ∧ w.heap.size ≤ g) := Lib.hid ⟨_, rfl, HG.out, Nat.le_refl _⟩
 clear HG HGW
 obtain ⟨g2, hg2, hg3, hg4⟩ := HG2.out
 rw [hg2] at HI0 ⊢
 have HG : Hid (R < g2) := Lib.hid hg3
 have HGW : Hid (w.heap.size ≤ g2) := Lib.hid hg4
 clear HG2 hg2 hg3 hg4
 generalize (w.alloc (Obj.cells #[Value.int IntKind.i64 0, Value.bool false, Value.bool false, Value.string { data := #[] }, Value.int IntKind.i64 0, Value.string { data := #[] }, Value.slice none 0 0, Value.slice none 0 0] 30)) = w1 at *
 have c1 := HI0.out.rd.cell 1 _ rfl
 go_upto_block 0 with fail
 go_cut [] from 11 to 111 (fun wc => ∃ m : Nat, n ≤ m ∧ m ≤ b.length ∧ NumI w wc R g2 b m false f ∧ (b.drop n).takeWhile numB = (b.drop n).take (m - n) ∧ (b.drop n).dropWhile numB = b.drop m)
 case first =>
  as_aux_lemma =>
   go_wp2_with fail
   go_loopg [] (b.length - n) (fun k wr => ∃ m : Nat, k = b.length - m ∧ n ≤ m ∧ m ≤ b.length ∧ NumI w wr R g2 b m false f ∧ (b.drop n).takeWhile numB = (b.drop n).take (m - n) ++ (b.drop m).takeWhile numB ∧ (b.drop n).dropWhile numB = (b.drop m).dropWhile numB)
   case atStart => exact ⟨n, rfl, Nat.le_refl _, hn, HI0.out, by rw [Nat.sub_self, List.take_zero, List.nil_append], rfl⟩
   case round =>
    obtain ⟨m, hk, hnm, hm, hI, ht, hdw⟩ := hrel
    have Hk := Lib.hid hk
    have HI := Lib.hid hI
    have HT := Lib.hid ht
    have HD := Lib.hid hdw
    clear hk hI ht hdw HI0 c1
    have c0 := HI.out.rd.cell 0 _ rfl
    have c1 := HI.out.rd.cell 1 _ rfl
    have f1 := HI.out.rd.free 1
    have hfin : b.length ≤ m ∨ numB (b.getD m 0) = false → (b.drop n).takeWhile numB = (b.drop n).take (m - n) ∧ (b.drop n).dropWhile numB = b.drop m := fun hc => while_out b n m hc HT.out HD.out
    have HFIN := Lib.hid hfin
    clear hfin
    by_cases hlt : m < b.length
    ·
     as_aux_lemma =>
      have hlt2 : (m : Int) < b.length := by omega
      have hij := byte_at b m hlt
      have HWI : Hid (numB (b.getD m 0) = true → _) := Lib.hid (fun hc => while_in b n m hlt hnm hc HT.out HD.out)
      have hc := (b.getD m 0).toNat_lt
      generalize b.getD m 0 = c at *
      have hwr : IntKind.i64.wrap ((m : Int) + 1) = (m : Int) + 1 := IntWalk.i64_in _ (by omega)
      by_cases hdg : digB c = true
      ·
       as_aux_lemma =>
        have hnum : numB c = true := by unfold numB; rw [hdg]; rfl
        obtain ⟨d1, d2⟩ := (digB_iff c).1 hdg
        have d3 : (48 : Int) ≤ (c.toNat : Int) := by omega
        have d4 : (c.toNat : Int) ≤ 57 := by omega
        clear hdg
        have HNB := Lib.hid hnum
        clear hnum
        go_wp2_with fail
        try dsimp only [List.append]
        refine wp_region_quiet_fast (by kernel_rfl) (by kernel_rfl) ?_
        repeat (go_big_quiet_step (fail))
        refine wpQuiet_nil ?_
        intro _ hw'
        obtain ⟨nq, hw''⟩ := hw'
        subst hw''
        go_wp2_with fail
        go_roundg (b.length - (m + 1))
        case measure => have := Hk.out; omega
        case rel =>
         refine ⟨m + 1, rfl, by omega, by omega, ?_, (HWI.out HNB.out).1, (HWI.out HNB.out).2⟩
         have hq := HI.out.below (drewN_b _ nq)
         have h9 := hq.rd.go (m + 1)
         have h8 := (OnlyR.refl R (wr.drewN nq)).set 1 (.int .i64 ((m + 1 : Nat) : Int))
         rw [Int.natCast_add] at h9 h8
         exact hq.only HG.out h8 h9
      have hdf : digB c = false := by simpa using hdg
      have hcs : c.toNat < 48 ∨ 57 < c.toNat := by
       rcases Nat.lt_or_ge c.toNat 48 with h9 | h9
       ·exact .inl h9
       ·rcases Nat.lt_or_ge 57 c.toNat with h8 | h8
        ·exact .inr h8
        ·exact absurd ((digB_iff c).2 ⟨h9, h8⟩) hdg
      by_cases e45 : c.toNat = 45
      ·
       as_aux_lemma =>
        have HNB : Hid (numB c = true) := Lib.hid (by have : c = 45 := UInt8.toNat_inj.1 (by rw [e45]; rfl); subst this; decide)
        have h45 : ((c.toNat : Int) == 45) = true := by rw [beq_iff_eq]; omega
        have d3 : decide ((48 : Int) ≤ (c.toNat : Int)) = false := by rw [decide_eq_false_iff_not]; omega
        clear hdg hdf hcs e45
        go_wp2_with fail
        try dsimp only [List.append]
        refine wp_region_quiet_fast (by kernel_rfl) (by kernel_rfl) ?_
        repeat (go_big_quiet_step (fail))
        refine wpQuiet_nil ?_
        intro _ hw'
        obtain ⟨nq, hw''⟩ := hw'
        subst hw''
        go_wp2_with fail
        go_roundg (b.length - (m + 1))
        case measure => have := Hk.out; omega
        case rel =>
         refine ⟨m + 1, rfl, by omega, by omega, ?_, (HWI.out HNB.out).1, (HWI.out HNB.out).2⟩
         have hq := HI.out.below (drewN_b _ nq)
         have h9 := hq.rd.go (m + 1)
         have h8 := (OnlyR.refl R (wr.drewN nq)).set 1 (.int .i64 ((m + 1 : Nat) : Int))
         rw [Int.natCast_add] at h9 h8
         exact hq.only HG.out h8 h9
      by_cases e43 : c.toNat = 43
      ·
       as_aux_lemma =>
        have HNB : Hid (numB c = true) := Lib.hid (by have : c = 43 := UInt8.toNat_inj.1 (by rw [e43]; rfl); subst this; decide)
        have h45 : ((c.toNat : Int) == 45) = false := by rw [beq_eq_false_iff_ne]; omega
        have h43 : ((c.toNat : Int) == 43) = true := by rw [beq_iff_eq]; omega
        have d3 : decide ((48 : Int) ≤ (c.toNat : Int)) = false := by rw [decide_eq_false_iff_not]; omega
        clear hdg hdf hcs e45 e43
        go_wp2_with fail
        try dsimp only [List.append]
        refine wp_region_quiet_fast (by kernel_rfl) (by kernel_rfl) ?_
        repeat (go_big_quiet_step (fail))
        refine wpQuiet_nil ?_
        intro _ hw'
        obtain ⟨nq, hw''⟩ := hw'
        subst hw''
        go_wp2_with fail
        go_roundg (b.length - (m + 1))
        case measure => have := Hk.out; omega
        case rel =>
         refine ⟨m + 1, rfl, by omega, by omega, ?_, (HWI.out HNB.out).1, (HWI.out HNB.out).2⟩
         have hq := HI.out.below (drewN_b _ nq)
         have h9 := hq.rd.go (m + 1)
         have h8 := (OnlyR.refl R (wr.drewN nq)).set 1 (.int .i64 ((m + 1 : Nat) : Int))
         rw [Int.natCast_add] at h9 h8
         exact hq.only HG.out h8 h9
      by_cases e46 : c.toNat = 46
      ·
       as_aux_lemma =>
        have HNB : Hid (numB c = true) := Lib.hid (by have : c = 46 := UInt8.toNat_inj.1 (by rw [e46]; rfl); subst this; decide)
        have h45 : ((c.toNat : Int) == 45) = false := by rw [beq_eq_false_iff_ne]; omega
        have h43 : ((c.toNat : Int) == 43) = false := by rw [beq_eq_false_iff_ne]; omega
        have h46 : ((c.toNat : Int) == 46) = true := by rw [beq_iff_eq]; omega
        have d3 : decide ((48 : Int) ≤ (c.toNat : Int)) = false := by rw [decide_eq_false_iff_not]; omega
        clear hdg hdf hcs e45 e43 e46
        go_wp2_with fail
        try dsimp only [List.append]
        refine wp_region_quiet_fast (by kernel_rfl) (by kernel_rfl) ?_
        repeat (go_big_quiet_step (fail))
        refine wpQuiet_nil ?_
        intro _ hw'
        obtain ⟨nq, hw''⟩ := hw'
        subst hw''
        go_wp2_with fail
        go_roundg (b.length - (m + 1))
        case measure => have := Hk.out; omega
        case rel =>
         refine ⟨m + 1, rfl, by omega, by omega, ?_, (HWI.out HNB.out).1, (HWI.out HNB.out).2⟩
         have hq := HI.out.below (drewN_b _ nq)
         have h9 := hq.rd.go (m + 1)
         have h8 := (OnlyR.refl R (wr.drewN nq)).set 1 (.int .i64 ((m + 1 : Nat) : Int))
         rw [Int.natCast_add] at h9 h8
         exact hq.only HG.out h8 h9
      by_cases e101 : c.toNat = 101
      ·
       as_aux_lemma =>
        have HNB : Hid (numB c = true) := Lib.hid (by have : c = 101 := UInt8.toNat_inj.1 (by rw [e101]; rfl); subst this; decide)
        have h45 : ((c.toNat : Int) == 45) = false := by rw [beq_eq_false_iff_ne]; omega
        have h43 : ((c.toNat : Int) == 43) = false := by rw [beq_eq_false_iff_ne]; omega
        have h46 : ((c.toNat : Int) == 46) = false := by rw [beq_eq_false_iff_ne]; omega
        have h101 : ((c.toNat : Int) == 101) = true := by rw [beq_iff_eq]; omega
        have d3 : (48 : Int) ≤ (c.toNat : Int) := by omega
        have d4 : decide ((c.toNat : Int) ≤ 57) = false := by rw [decide_eq_false_iff_not]; omega
        clear hdg hdf hcs e45 e43 e46 e101
        go_wp2_with fail
        try dsimp only [List.append]
        refine wp_region_quiet_fast (by kernel_rfl) (by kernel_rfl) ?_
        repeat (go_big_quiet_step (fail))
        refine wpQuiet_nil ?_
        intro _ hw'
        obtain ⟨nq, hw''⟩ := hw'
        subst hw''
        go_wp2_with fail
        go_roundg (b.length - (m + 1))
        case measure => have := Hk.out; omega
        case rel =>
         refine ⟨m + 1, rfl, by omega, by omega, ?_, (HWI.out HNB.out).1, (HWI.out HNB.out).2⟩
         have hq := HI.out.below (drewN_b _ nq)
         have h9 := hq.rd.go (m + 1)
         have h8 := (OnlyR.refl R (wr.drewN nq)).set 1 (.int .i64 ((m + 1 : Nat) : Int))
         rw [Int.natCast_add] at h9 h8
         exact hq.only HG.out h8 h9
      by_cases e69 : c.toNat = 69
      ·
       as_aux_lemma =>
        have HNB : Hid (numB c = true) := Lib.hid (by have : c = 69 := UInt8.toNat_inj.1 (by rw [e69]; rfl); subst this; decide)
        have h45 : ((c.toNat : Int) == 45) = false := by rw [beq_eq_false_iff_ne]; omega
        have h43 : ((c.toNat : Int) == 43) = false := by rw [beq_eq_false_iff_ne]; omega
        have h46 : ((c.toNat : Int) == 46) = false := by rw [beq_eq_false_iff_ne]; omega
        have h101 : ((c.toNat : Int) == 101) = false := by rw [beq_eq_false_iff_ne]; omega
        have h69 : ((c.toNat : Int) == 69) = true := by rw [beq_iff_eq]; omega
        have d3 : (48 : Int) ≤ (c.toNat : Int) := by omega
        have d4 : decide ((c.toNat : Int) ≤ 57) = false := by rw [decide_eq_false_iff_not]; omega
        clear hdg hdf hcs e45 e43 e46 e101 e69
        go_wp2_with fail
        try dsimp only [List.append]
        refine wp_region_quiet_fast (by kernel_rfl) (by kernel_rfl) ?_
        repeat (go_big_quiet_step (fail))
        refine wpQuiet_nil ?_
        intro _ hw'
        obtain ⟨nq, hw''⟩ := hw'
        subst hw''
        go_wp2_with fail
        go_roundg (b.length - (m + 1))
        case measure => have := Hk.out; omega
        case rel =>
         refine ⟨m + 1, rfl, by omega, by omega, ?_, (HWI.out HNB.out).1, (HWI.out HNB.out).2⟩
         have hq := HI.out.below (drewN_b _ nq)
         have h9 := hq.rd.go (m + 1)
         have h8 := (OnlyR.refl R (wr.drewN nq)).set 1 (.int .i64 ((m + 1 : Nat) : Int))
         rw [Int.natCast_add] at h9 h8
         exact hq.only HG.out h8 h9
      have HNF : Hid (numB c = false) := by
       refine Lib.hid ?_
       unfold numB
       rw [hdf]
       simp only [Bool.or_eq_false_iff, beq_eq_false_iff_ne]
       refine ⟨⟨⟨⟨⟨trivial, ?_⟩, ?_⟩, ?_⟩, ?_⟩, ?_⟩ <;> (intro e9; subst e9; simp at e45 e43 e46 e101 e69)
      have h45 : ((c.toNat : Int) == 45) = false := by rw [beq_eq_false_iff_ne]; omega
      have h43 : ((c.toNat : Int) == 43) = false := by rw [beq_eq_false_iff_ne]; omega
      have h46 : ((c.toNat : Int) == 46) = false := by rw [beq_eq_false_iff_ne]; omega
      have h101 : ((c.toNat : Int) == 101) = false := by rw [beq_eq_false_iff_ne]; omega
      have h69 : ((c.toNat : Int) == 69) = false := by rw [beq_eq_false_iff_ne]; omega
      clear hdg hdf e45 e43 e46 e101 e69
      have hfin := HFIN.out (.inr HNF.out)
      obtain ⟨hw1, hw2⟩ := hfin
      have HTW := Lib.hid hw1
      have HDW := Lib.hid hw2
      clear hw1 hw2 HWI
      rcases hcs with d1 | d1
      ·
       as_aux_lemma =>
        have d3 : decide ((48 : Int) ≤ (c.toNat : Int)) = false := by rw [decide_eq_false_iff_not]; omega
        go_wp2_with fail
        try dsimp only [List.append]
        refine wp_region_quiet_fast (by kernel_rfl) (by kernel_rfl) ?_
        repeat (go_big_quiet_step (fail))
        refine wpQuiet_nil ?_
        intro _ hw'
        obtain ⟨nq, hw''⟩ := hw'
        subst hw''
        go_wp2_with fail
        go_meet
        exact ⟨m, hnm, hm, HI.out.below (drewN_b _ nq), HTW.out, HDW.out⟩
      ·
       as_aux_lemma =>
        have d3 : (48 : Int) ≤ (c.toNat : Int) := by omega
        have d4 : decide ((c.toNat : Int) ≤ 57) = false := by rw [decide_eq_false_iff_not]; omega
        go_wp2_with fail
        try dsimp only [List.append]
        refine wp_region_quiet_fast (by kernel_rfl) (by kernel_rfl) ?_
        repeat (go_big_quiet_step (fail))
        refine wpQuiet_nil ?_
        intro _ hw'
        obtain ⟨nq, hw''⟩ := hw'
        subst hw''
        go_wp2_with fail
        go_meet
        exact ⟨m, hnm, hm, HI.out.below (drewN_b _ nq), HTW.out, HDW.out⟩
    ·
     as_aux_lemma =>
      obtain ⟨hw1, hw2⟩ := HFIN.out (.inl (by omega))
      have HTW := Lib.hid hw1
      have HDW := Lib.hid hw2
      clear hw1 hw2
      have hlt2 : ¬ (m : Int) < b.length := by omega
      have hd : decide ((m : Int) < b.length) = false := by simp; omega
      go_wp2_with fail
      try dsimp only [List.append]
      refine wp_region_quiet_fast (by kernel_rfl) (by kernel_rfl) ?_
      repeat (go_big_quiet_step (fail))
      refine wpQuiet_nil ?_
      intro _ hw'
      obtain ⟨nq, hw''⟩ := hw'
      subst hw''
      go_wp2_with fail
      go_meet
      exact ⟨m, hnm, hm, HI.out.below (drewN_b _ nq), HTW.out, HDW.out⟩
 case rest =>
  as_aux_lemma =>
   obtain ⟨m, hnm, hm, hI3, htw, hdw⟩ := hcut
   have HI3 := Lib.hid hI3
   have HTW := Lib.hid htw
   have HDW := Lib.hid hdw
   clear hI3 htw hdw HI0 c1
   have hext : (⟨b.toArray⟩ : ByteArray).extract n m = ⟨((b.drop n).take (m - n)).toArray⟩ := by rw [Lib.extract_eq]
   have hnm2 : (n : Int) ≤ m := by omega
   have hm2 : (m : Int) ≤ b.length := by omega
   have hn0 : (0 : Int) ≤ n := by omega
   have hpl : ((b.drop n).take (m - n)).length ≤ 1000000000 := by rw [List.length_take, List.length_drop]; omega
   have HNUM : Hid (numS (b.drop n) f = if (parseS ((b.drop n).take (m - n))).2 = 170 ∨ ((parseS ((b.drop n).take (m - n))).2 = 3 ∧ gramB ((b.drop n).take (m - n)) = false) then none else some (.mk 2 false (parseS ((b.drop n).take (m - n))).1 [] [] [], b.drop m, { f with great := f.great || (parseS ((b.drop n).take (m - n))).2 != 0 })) := by
    refine Lib.hid ?_
    unfold numS
    rw [HTW.out, HDW.out]
   have c0 := HI3.out.rd.cell 0 _ rfl
   have c1 := HI3.out.rd.cell 1 _ rfl
   go_wp2_with fail
   refine wp_region_quiet_fast (by kernel_rfl) (by kernel_rfl) ?_
   repeat (go_big_quiet_step (fail))
   refine wpQuiet_nil ?_
   intro _ hw'
   obtain ⟨nq, hw''⟩ := hw'
   subst hw''
   have HI4 := Lib.hid (HI3.out.below (drewN_b _ nq))
   clear c0 c1
   generalize wc.drewN nq = w4 at *
   go_wp2_with fail
   refine (parseR_calls w4 _ hpl).mono ?_
   rintro e w5 ⟨rfl, hb5⟩
   generalize parseS ((b.drop n).take (m - n)) = ps at *
   obtain ⟨⟨ng, dg, ex⟩, code⟩ := ps
   unfold DecV
   dsimp only at HNUM ⊢
   have HI5 := Lib.hid (HI4.out.below hb5)
   clear hb5
   go_upto_region 6 with fail
   have hb6 : Below w5.heap.size w5 (w5.alloc (Obj.cells #[Value.bool ng, Value.string { data := dg.toArray }, Value.int IntKind.i64 ex] 26)) := (Below.refl _ _).alloc (Nat.le_refl _) _
   have HI6 := Lib.hid (HI5.out.below hb6)
   have HC6 := Lib.hid (RowAt.new w5 #[Value.bool ng, Value.string { data := dg.toArray }, Value.int IntKind.i64 ex] 26)
   have HG5 : Hid (w.heap.size ≤ w5.heap.size ∧ R < w5.heap.size ∧ g2 ≠ w5.heap.size) := Lib.hid ⟨HI5.out.on.size, HI5.out.rd.lt, by have := HI5.out.res.lt; omega⟩
   obtain ⟨g5, hg5⟩ : ∃ g, w5.heap.size = g := ⟨_, rfl⟩
   rw [hg5] at HC6 HG5 ⊢
   generalize (w5.alloc (Obj.cells #[Value.bool ng, Value.string { data := dg.toArray }, Value.int IntKind.i64 ex] 26)) = w6 at *
   clear hb6 hg5
   by_cases e3 : code = 3
   ·
    as_aux_lemma =>
     subst e3
     go_wp2_with fail
     refine (grammarR_calls w6 _ hpl).mono ?_
     rintro e w7 ⟨rfl, hb7⟩
     have HI7 := Lib.hid (HI6.out.below hb7)
     have HC7 := Lib.hid (HC6.out.below hb7)
     clear hb7
     cases hgb : gramB ((b.drop n).take (m - n)) with
     | true =>
      as_aux_lemma =>
       rw [hgb] at HNUM
       have b6 := HI7.out.rd.cell 6 _ rfl
       have f6b := HI7.out.rd.free 6
       have hset : RdAt (w7.setCell ⟨R, 6, none⟩ (.bool true)) R b m false { f with great := true } := RowAt.set HI7.out.rd 6 _ (by simp)
       have HIb := Lib.hid (HI7.out.only HG.out ((OnlyR.refl R w7).set 6 (.bool true)) hset)
       clear hset
       go_upto_region 10 with fail
       clear b6 f6b
       have HCE := Lib.hid (show RowAt (w7.setCell ⟨R, 6, none⟩ (.bool true)) g5 _ from (RowAt.far HC7.out (p := ⟨R, 6, none⟩) (by have := HG5.out; show R ≠ g5; omega) _))
       have d0c := HCE.out.cell 0 _ rfl
       have d1c := HCE.out.cell 1 _ rfl
       have d2c := HCE.out.cell 2 _ rfl
       go_wp2_with (first | with_reducible refine stop_ret ?_ | refine wpList_store8 rfl _ _ rfl rfl HIb.out.res rfl _ _ _ _ _ _ _ _ rfl rfl rfl ?_)
       refine Lib.hid ?_
       obtain ⟨ho, hr⟩ := HIb.out.ret HG.out HGW.out (.int .i64 2) (.bool false) (.bool ng) (.string ⟨dg.toArray⟩) (.int .i64 ex) (.string ⟨#[]⟩) (.slice none 0 0) (.slice none 0 0)
       have hrow := set8_row HIb.out.res rfl (.int .i64 2) (.bool false) (.bool ng) (.string ⟨dg.toArray⟩) (.int .i64 ex) (.string ⟨#[]⟩) (.slice none 0 0) (.slice none 0 0)
       change bodyPost _ _ _ _ _ (set8 (w7.setCell ⟨R, 6, none⟩ (.bool true)) g2 (.int .i64 2) (.bool false) (.bool ng) (.string ⟨dg.toArray⟩) (.int .i64 ex) (.string ⟨#[]⟩) (.slice none 0 0) (.slice none 0 0))
       generalize set8 (w7.setCell ⟨R, 6, none⟩ (.bool true)) g2 (.int .i64 2) (.bool false) (.bool ng) (.string ⟨dg.toArray⟩) (.int .i64 ex) (.string ⟨#[]⟩) (.slice none 0 0) (.slice none 0 0) = W8 at *
       refine bodyPost_ret8 rfl rfl rfl hrow ?_
       exact ⟨ho, ⟨ng, dg, ex⟩, m, false, _, rfl, hnm, hm, hr, .inr ⟨rfl, by rw [HNUM.out]; simp⟩⟩
     | false =>
      as_aux_lemma =>
       rw [hgb] at HNUM
       have b2 := HI7.out.rd.cell 2 _ rfl
       have f2b := HI7.out.rd.free 2
       have HIb := Lib.hid (HI7.out.only HG.out ((OnlyR.refl R w7).set 2 (.bool true)) (HI7.out.rd.setBad true))
       go_upto_region 10 with fail
       clear b2 f2b
       have HCE := Lib.hid (show RowAt (w7.setCell ⟨R, 2, none⟩ (.bool true)) g5 _ from (RowAt.far HC7.out (p := ⟨R, 2, none⟩) (by have := HG5.out; show R ≠ g5; omega) _))
       have d0c := HCE.out.cell 0 _ rfl
       have d1c := HCE.out.cell 1 _ rfl
       have d2c := HCE.out.cell 2 _ rfl
       go_wp2_with (first | with_reducible refine stop_ret ?_ | refine wpList_store8 rfl _ _ rfl rfl HIb.out.res rfl _ _ _ _ _ _ _ _ rfl rfl rfl ?_)
       refine Lib.hid ?_
       obtain ⟨ho, hr⟩ := HIb.out.ret HG.out HGW.out (.int .i64 2) (.bool false) (.bool ng) (.string ⟨dg.toArray⟩) (.int .i64 ex) (.string ⟨#[]⟩) (.slice none 0 0) (.slice none 0 0)
       have hrow := set8_row HIb.out.res rfl (.int .i64 2) (.bool false) (.bool ng) (.string ⟨dg.toArray⟩) (.int .i64 ex) (.string ⟨#[]⟩) (.slice none 0 0) (.slice none 0 0)
       change bodyPost _ _ _ _ _ (set8 (w7.setCell ⟨R, 2, none⟩ (.bool true)) g2 (.int .i64 2) (.bool false) (.bool ng) (.string ⟨dg.toArray⟩) (.int .i64 ex) (.string ⟨#[]⟩) (.slice none 0 0) (.slice none 0 0))
       generalize set8 (w7.setCell ⟨R, 2, none⟩ (.bool true)) g2 (.int .i64 2) (.bool false) (.bool ng) (.string ⟨dg.toArray⟩) (.int .i64 ex) (.string ⟨#[]⟩) (.slice none 0 0) (.slice none 0 0) = W8 at *
       refine bodyPost_ret8 rfl rfl rfl hrow ?_
       exact ⟨ho, ⟨ng, dg, ex⟩, m, true, _, rfl, hnm, hm, hr, .inl ⟨rfl, by rw [HNUM.out]; simp⟩⟩
   have h3 : (code == 3) = false := by rw [beq_eq_false_iff_ne]; exact e3
   by_cases e170 : code = 170
   ·
    as_aux_lemma =>
     subst e170
     clear e3
     have b2 := HI6.out.rd.cell 2 _ rfl
     have f2b := HI6.out.rd.free 2
     have HIb := Lib.hid (HI6.out.only HG.out ((OnlyR.refl R w6).set 2 (.bool true)) (HI6.out.rd.setBad true))
     go_upto_region 10 with fail
     clear b2 f2b
     have HCE := Lib.hid (show RowAt (w6.setCell ⟨R, 2, none⟩ (.bool true)) g5 _ from (RowAt.far HC6.out (p := ⟨R, 2, none⟩) (by have := HG5.out; show R ≠ g5; omega) _))
     have d0c := HCE.out.cell 0 _ rfl
     have d1c := HCE.out.cell 1 _ rfl
     have d2c := HCE.out.cell 2 _ rfl
     go_wp2_with (first | with_reducible refine stop_ret ?_ | refine wpList_store8 rfl _ _ rfl rfl HIb.out.res rfl _ _ _ _ _ _ _ _ rfl rfl rfl ?_)
     refine Lib.hid ?_
     obtain ⟨ho, hr⟩ := HIb.out.ret HG.out HGW.out (.int .i64 2) (.bool false) (.bool ng) (.string ⟨dg.toArray⟩) (.int .i64 ex) (.string ⟨#[]⟩) (.slice none 0 0) (.slice none 0 0)
     have hrow := set8_row HIb.out.res rfl (.int .i64 2) (.bool false) (.bool ng) (.string ⟨dg.toArray⟩) (.int .i64 ex) (.string ⟨#[]⟩) (.slice none 0 0) (.slice none 0 0)
     change bodyPost _ _ _ _ _ (set8 (w6.setCell ⟨R, 2, none⟩ (.bool true)) g2 (.int .i64 2) (.bool false) (.bool ng) (.string ⟨dg.toArray⟩) (.int .i64 ex) (.string ⟨#[]⟩) (.slice none 0 0) (.slice none 0 0))
     generalize set8 (w6.setCell ⟨R, 2, none⟩ (.bool true)) g2 (.int .i64 2) (.bool false) (.bool ng) (.string ⟨dg.toArray⟩) (.int .i64 ex) (.string ⟨#[]⟩) (.slice none 0 0) (.slice none 0 0) = W8 at *
     refine bodyPost_ret8 rfl rfl rfl hrow ?_
     exact ⟨ho, ⟨ng, dg, ex⟩, m, true, _, rfl, hnm, hm, hr, .inl ⟨rfl, by rw [HNUM.out]; simp⟩⟩
   have h170 : (code == 170) = false := by rw [beq_eq_false_iff_ne]; exact e170
   have HN2 : Hid (numS (b.drop n) f = some (.mk 2 false ⟨ng, dg, ex⟩ [] [] [], b.drop m, { f with great := f.great || code != 0 })) := Lib.hid (by rw [HNUM.out, if_neg (by rintro (h9 | ⟨h9, _⟩); exact e170 h9; exact e3 h9)])
   clear e3 e170 HNUM
   by_cases e0 : code = 0
   ·
    as_aux_lemma =>
     subst e0
     clear h3 h170
     have HCE := Lib.hid (show RowAt w6 g5 _ from HC6.out)
     have d0c := HCE.out.cell 0 _ rfl
     have d1c := HCE.out.cell 1 _ rfl
     have d2c := HCE.out.cell 2 _ rfl
     go_wp2_with (first | with_reducible refine stop_ret ?_ | refine wpList_store8 rfl _ _ rfl rfl HI6.out.res rfl _ _ _ _ _ _ _ _ rfl rfl rfl ?_)
     refine Lib.hid ?_
     obtain ⟨ho, hr⟩ := HI6.out.ret HG.out HGW.out (.int .i64 2) (.bool false) (.bool ng) (.string ⟨dg.toArray⟩) (.int .i64 ex) (.string ⟨#[]⟩) (.slice none 0 0) (.slice none 0 0)
     have hrow := set8_row HI6.out.res rfl (.int .i64 2) (.bool false) (.bool ng) (.string ⟨dg.toArray⟩) (.int .i64 ex) (.string ⟨#[]⟩) (.slice none 0 0) (.slice none 0 0)
     change bodyPost _ _ _ _ _ (set8 w6 g2 (.int .i64 2) (.bool false) (.bool ng) (.string ⟨dg.toArray⟩) (.int .i64 ex) (.string ⟨#[]⟩) (.slice none 0 0) (.slice none 0 0))
     generalize set8 w6 g2 (.int .i64 2) (.bool false) (.bool ng) (.string ⟨dg.toArray⟩) (.int .i64 ex) (.string ⟨#[]⟩) (.slice none 0 0) (.slice none 0 0) = W8 at *
     refine bodyPost_ret8 rfl rfl rfl hrow ?_
     exact ⟨ho, ⟨ng, dg, ex⟩, m, false, _, rfl, hnm, hm, hr, .inr ⟨rfl, by rw [HN2.out]; simp⟩⟩
   have h0 : (code == 0) = false := by rw [beq_eq_false_iff_ne]; exact e0
   have HE0 := Lib.hid e0
   clear e0
   have HNUM : Hid (numS (b.drop n) f = some (.mk 2 false ⟨ng, dg, ex⟩ [] [] [], b.drop m, { f with great := true })) := Lib.hid (by rw [HN2.out]; simp [HE0.out])
   have b6 := HI6.out.rd.cell 6 _ rfl
   have f6b := HI6.out.rd.free 6
   have hset : RdAt (w6.setCell ⟨R, 6, none⟩ (.bool true)) R b m false { f with great := true } := RowAt.set HI6.out.rd 6 _ (by simp)
   have HIb := Lib.hid (HI6.out.only HG.out ((OnlyR.refl R w6).set 6 (.bool true)) hset)
   clear hset
   go_upto_region 10 with fail
   clear b6 f6b
   have HCE := Lib.hid (show RowAt (w6.setCell ⟨R, 6, none⟩ (.bool true)) g5 _ from (RowAt.far HC6.out (p := ⟨R, 6, none⟩) (by have := HG5.out; show R ≠ g5; omega) _))
   have d0c := HCE.out.cell 0 _ rfl
   have d1c := HCE.out.cell 1 _ rfl
   have d2c := HCE.out.cell 2 _ rfl
   go_wp2_with (first | with_reducible refine stop_ret ?_ | refine wpList_store8 rfl _ _ rfl rfl HIb.out.res rfl _ _ _ _ _ _ _ _ rfl rfl rfl ?_)
   refine Lib.hid ?_
   obtain ⟨ho, hr⟩ := HIb.out.ret HG.out HGW.out (.int .i64 2) (.bool false) (.bool ng) (.string ⟨dg.toArray⟩) (.int .i64 ex) (.string ⟨#[]⟩) (.slice none 0 0) (.slice none 0 0)
   have hrow := set8_row HIb.out.res rfl (.int .i64 2) (.bool false) (.bool ng) (.string ⟨dg.toArray⟩) (.int .i64 ex) (.string ⟨#[]⟩) (.slice none 0 0) (.slice none 0 0)
   change bodyPost _ _ _ _ _ (set8 (w6.setCell ⟨R, 6, none⟩ (.bool true)) g2 (.int .i64 2) (.bool false) (.bool ng) (.string ⟨dg.toArray⟩) (.int .i64 ex) (.string ⟨#[]⟩) (.slice none 0 0) (.slice none 0 0))
   generalize set8 (w6.setCell ⟨R, 6, none⟩ (.bool true)) g2 (.int .i64 2) (.bool false) (.bool ng) (.string ⟨dg.toArray⟩) (.int .i64 ex) (.string ⟨#[]⟩) (.slice none 0 0) (.slice none 0 0) = W8 at *
   refine bodyPost_ret8 rfl rfl rfl hrow ?_
   exact ⟨ho, ⟨ng, dg, ex⟩, m, false, _, rfl, hnm, hm, hr, .inr ⟨rfl, by rw [HNUM.out]; try rfl⟩⟩
end Go.Proofs.YtfclfaidmipjpaaGreatDoor
