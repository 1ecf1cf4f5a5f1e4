/- The walk of DecimalSums: it returns true, at any decimals, over any world with the library's table of powers of ten. Printed by gen_sums.py. -/
import Derived.Test.YtkakmjdfecbhaaaGreatDoorSum1
namespace Go.Proofs.YtkakmjdfecbhaaaGreatDoor
open Go.RowKit

set_option maxHeartbeats 4000000 in
set_option maxRecDepth 100000 in
theorem sums_calls (w : World) (v : Value) (ds : List Dec) (a b : Dec) (hl : DecsIn w v ds) (hla : a.digits.length ≤ maxLen) (hlb : b.digits.length ≤ maxLen) (ht : Tab w) :
    Calls Tryz.prog 3 #[v, .agg #[.bool a.neg, .string ⟨a.digits.toArray⟩, .int .i64 a.exp], .agg #[.bool b.neg, .string ⟨b.digits.toArray⟩, .int .i64 b.exp]] w fun e w' => e = .returned (.bool true) ∧ Below w.heap.size w w' := by
  obtain ⟨p, cap, rfl, hcap, hmx, hp⟩ := hl.open
  have h1 := all2 w a b
  have hbel0 : Below w.heap.size w ((w.alloc (Obj.cells #[Value.bool a.neg, Value.string { data := a.digits.toArray }, Value.int IntKind.i64 a.exp] 24)).alloc (Obj.cells #[Value.bool b.neg, Value.string { data := b.digits.toArray }, Value.int IntKind.i64 b.exp] 24)) := ((Below.refl _ _).alloc (Nat.le_refl _) _).alloc (by simp) _
  have hr := DecsRaw.two ((w.alloc (Obj.cells #[Value.bool a.neg, Value.string { data := a.digits.toArray }, Value.int IntKind.i64 a.exp] 24)).alloc (Obj.cells #[Value.bool b.neg, Value.string { data := b.digits.toArray }, Value.int IntKind.i64 b.exp] 24)) a b hla hlb
  have hsz : ((w.alloc (Obj.cells #[Value.bool a.neg, Value.string { data := a.digits.toArray }, Value.int IntKind.i64 a.exp] 24)).alloc (Obj.cells #[Value.bool b.neg, Value.string { data := b.digits.toArray }, Value.int IntKind.i64 b.exp] 24)).heap.size = w.heap.size + 1 + 1 := by simp
  rw [hsz] at hr
  have H0 := Lib.hid h1
  have Ht0 := Lib.hid (ht.below hbel0)
  have HL0 := Lib.hid (hl.below hbel0)
  have Hr := Lib.hid hr
  have Hsz := Lib.hid hsz
  have Hp := Lib.hid hp
  clear h1 hr hsz ht hl hp
  by_cases h20 : 20 < ds.length
  · have h20i : (20 : Int) < ds.length := by omega
    go_enter Tryz.func3, Tryz.ntmps3
    go_wp2_with fail
    clear Hr Hsz
    generalize ((w.alloc (Obj.cells #[Value.bool a.neg, Value.string { data := a.digits.toArray }, Value.int IntKind.i64 a.exp] 24)).alloc (Obj.cells #[Value.bool b.neg, Value.string { data := b.digits.toArray }, Value.int IntKind.i64 b.exp] 24)) = w1 at *
    clear HL0
    go_wp2_with fail
    refine (works_calls _ Ht0.out).mono ?_
    rintro e wz ⟨rfl, hbz⟩
    have hbf := hbel0.trans (hbz.mono hbel0.size)
    clear hbz H0 Ht0 hbel0 
    go_wp2_with fail
    go_ret
    exact ⟨rfl, hbf⟩
  · have h20i : ¬ (20 : Int) < ds.length := by omega
    go_enter Tryz.func3, Tryz.ntmps3
    go_wp2_with fail
    have hr := Hr.out
    have hsz := Hsz.out
    clear Hr Hsz
    generalize ((w.alloc (Obj.cells #[Value.bool a.neg, Value.string { data := a.digits.toArray }, Value.int IntKind.i64 a.exp] 24)).alloc (Obj.cells #[Value.bool b.neg, Value.string { data := b.digits.toArray }, Value.int IntKind.i64 b.exp] 24)) = w1 at *
    refine (long_calls _ _ ds HL0.out.raw).mono ?_
    rintro e w1 ⟨rfl, rfl⟩
    cases hL : longB ds with
    | true =>
      clear hL
      clear HL0
      go_wp2_with fail
      refine (works_calls _ Ht0.out).mono ?_
      rintro e wz ⟨rfl, hbz⟩
      have hbf := hbel0.trans (hbz.mono hbel0.size)
      clear hbz H0 Ht0 hbel0 
      go_wp2_with fail
      go_ret
      exact ⟨rfl, hbf⟩
    | false =>
      have HlL := Lib.hid hL
      clear hL
      rw [← hsz] at hr
      have Hr := Lib.hid hr
      clear hr hsz
      have ka0 : w1.cell? ⟨w.heap.size, 0, none⟩ = some (.bool a.neg) := (H0.out (w.heap.size, a) (by simp)).c0
      have ka1 : w1.cell? ⟨w.heap.size, 1, none⟩ = some (.string ⟨a.digits.toArray⟩) := (H0.out (w.heap.size, a) (by simp)).c1
      have ka2 : w1.cell? ⟨w.heap.size, 2, none⟩ = some (.int .i64 a.exp) := (H0.out (w.heap.size, a) (by simp)).c2
      have kb0 : w1.cell? ⟨w.heap.size + 1, 0, none⟩ = some (.bool b.neg) := (H0.out (w.heap.size + 1, b) (by simp)).c0
      have kb1 : w1.cell? ⟨w.heap.size + 1, 1, none⟩ = some (.string ⟨b.digits.toArray⟩) := (H0.out (w.heap.size + 1, b) (by simp)).c1
      have kb2 : w1.cell? ⟨w.heap.size + 1, 2, none⟩ = some (.int .i64 b.exp) := (H0.out (w.heap.size + 1, b) (by simp)).c2
      go_wp2_with fail
      have hr := Hr.out
      clear Hr
      refine (long_calls _ _ [a, b] hr).mono ?_
      rintro e w2 ⟨rfl, rfl⟩
      have hc1 : Below w1.heap.size w1 (w1.alloc (Obj.cells #[Value.bool a.neg, Value.string { data := a.digits.toArray }, Value.int IntKind.i64 a.exp, Value.bool b.neg, Value.string { data := b.digits.toArray }, Value.int IntKind.i64 b.exp] 24)) := (Below.refl _ _).alloc (Nat.le_refl _) _
      have H1 := Lib.hid (H0.out.under hc1)
      have Ht1 := Lib.hid (Ht0.out.below hc1)
      have HL1 := Lib.hid (HL0.out.below hc1)
      have hbel1 := hbel0.trans (hc1.mono hbel0.size)
      clear hc1 H0 Ht0 HL0 hbel0 hr ka0 ka1 ka2 kb0 kb1 kb2
      generalize (w1.alloc (Obj.cells #[Value.bool a.neg, Value.string { data := a.digits.toArray }, Value.int IntKind.i64 a.exp, Value.bool b.neg, Value.string { data := b.digits.toArray }, Value.int IntKind.i64 b.exp] 24)) = w1 at *
      cases hL : longB [a, b] with
      | true =>
        clear hL
        clear HL1
        go_wp2_with fail
        refine (works_calls _ Ht1.out).mono ?_
        rintro e wz ⟨rfl, hbz⟩
        have hbf := hbel1.trans (hbz.mono hbel1.size)
        clear hbz H1 Ht1 hbel1 
        go_wp2_with fail
        go_ret
        exact ⟨rfl, hbf⟩
      | false =>
        obtain ⟨la, lb⟩ := longB_two hL
        clear hL hla hlb
        have hLn := HL1.out.below ((Below.refl _ _).alloc (Nat.le_refl _) (Obj.cells #[] 24))
        have HLn := Lib.hid hLn
        clear hLn
        go_wp2_with (at_builtin; go_must (refine wpList_append_decs rfl _ _ rfl w1.heap.size _ [] rfl (DecW.nil w1) _ ds rfl HLn.out ?hlen ?hbase ?_))
        case hlen => simp; omega
        case hbase => simp
        intro v1 w2 hown1 hg1
        have hb2 : Below w1.heap.size w1 w2 := ((Below.refl _ _).alloc (Nat.le_refl _) _).grown hg1 (by simp) (by intro k hk; simp [Value.ownBlock] at hk; omega)
        have hown1a : DecW (w2.alloc (Obj.cells #[Value.bool false, Value.string { data := #[55, 55] }, Value.int IntKind.i64 0] 24)) w1.heap.size v1 ds := World.ownsRow.alloc hown1 _
        clear hown1 hg1 HLn
        go_wp2_with (at_builtin; go_must (refine wpList_append_decs rfl _ _ rfl w1.heap.size _ ds rfl hown1a _ [d77] rfl (DecsIn.one77 w2) ?hlen ?hbase ?_))
        case hlen => simp; omega
        case hbase => have := hb2.size; simp; omega
        intro v2 w3 hown2 hg2
        obtain ⟨g, cap2, rfl, hgb, hgl, hgc, hgm, hin⟩ := hown2.open (by simp) (with77_len HlL.out)
        have hsz1 := hb2.size
        have hc2 : Below w1.heap.size w1 w3 := (hb2.trans ((Below.refl _ _).alloc hb2.size _)).grown hg2 (by simp; omega) (fun k hk => (hown1a.lt k hk).1)
        simp only [List.length_append, List.length_cons, List.length_nil, Nat.zero_add] at hgc hin ⊢
        have HM3 := Lib.hid hin
        have H3 := Lib.hid (H1.out.under hc2)
        have Ht3 := Lib.hid (Ht1.out.below hc2)
        have HL3 := Lib.hid (HL1.out.below hc2)
        have hbel3 := hbel1.trans (hc2.mono hbel1.size)
        clear hb2 hsz1 hown1a hown2 hg2 hin hc2 H1 Ht1 HL1 hbel1 hgm
        go_wp2_with fail
        refine (sum_calls _ _ ds (HM3.out.cut.decs (by omega) HlL.out) (by omega)).mono ?_
        rintro e w4 ⟨rfl, hc3⟩
        have HM4 := Lib.hid (HM3.out.below hc3)
        have H4 := Lib.hid (H3.out.under hc3)
        have Ht4 := Lib.hid (Ht3.out.below hc3)
        have HL4 := Lib.hid (HL3.out.below hc3)
        have hbel4 := hbel3.trans (hc3.mono hbel3.size)
        clear hc3 HM3 H3 Ht3 HL3 hbel3
        simp only [DecV]
        have Hno : Hid (mayAll ds = false → sumS ds = (Dec.zero, 2)) := sum_not
        have Hsr : Hid (∀ W v, DecsAt W v ds → mayAll ds = true → Calls Tryz.prog 10 #[v] W fun e w' => e = .returned (.tuple #[DecV (sumS ds).1, .int .i64 (sumS ds).2]) ∧ Below W.heap.size W w') := fun W v h1 h2 => sumR_calls W v ds h1 h2 (by omega)
        generalize sumS ds = sq at *
        obtain ⟨x, ex⟩ := sq
        simp only at *
        simp only [DecV] at Hsr
        have HM5 := Lib.hid (HM4.out.below ((Below.refl _ _).alloc (Nat.le_refl _) (Obj.cells #[Value.bool x.neg, Value.string { data := x.digits.toArray }, Value.int IntKind.i64 x.exp] 24)))
        clear HM4
        have HL5 := Lib.hid (HL4.out.below ((Below.refl _ _).alloc (Nat.le_refl _) (Obj.cells #[Value.bool x.neg, Value.string { data := x.digits.toArray }, Value.int IntKind.i64 x.exp] 24)))
        clear HL4
        have H5 := Lib.hid ((H4.out.alloc (Obj.cells #[Value.bool x.neg, Value.string { data := x.digits.toArray }, Value.int IntKind.i64 x.exp] 24)).push (DecAt.at w4 x _ rfl))
        have Ht5 := Lib.hid (Ht4.out.alloc (Obj.cells #[Value.bool x.neg, Value.string { data := x.digits.toArray }, Value.int IntKind.i64 x.exp] 24))
        have hbel5 := hbel4.alloc hbel4.size (Obj.cells #[Value.bool x.neg, Value.string { data := x.digits.toArray }, Value.int IntKind.i64 x.exp] 24)
        clear H4 Ht4 hbel4
        go_wp2_with fail
        generalize (w4.alloc (Obj.cells #[Value.bool x.neg, Value.string { data := x.digits.toArray }, Value.int IntKind.i64 x.exp] 24)) = w5 at *
        have hbl0 := Below.refl w5.heap.size w5
        go_loopg [10, 11] ds.length (fun k fine i wr => ∃ j : Nat, k = ds.length - j ∧ j ≤ ds.length ∧ i = .int .i64 j ∧ fine = .bool (mayAll (ds.take j)) ∧ Below w5.heap.size w5 wr)
        case atStart => exact ⟨0, rfl, by omega, rfl, rfl, hbl0⟩
        case round =>
          obtain ⟨j, hk, hj, rfl, rfl, hbl⟩ := hrel
          have Hk := Lib.hid hk
          clear hk hbl0
          by_cases hlt : j < ds.length
          · have hlt2 : (j : Int) < ds.length := by omega
            obtain ⟨b2, off2, rfl⟩ := Hp.out (by omega)
            obtain ⟨c0, c1, c2⟩ := (HL5.out.below hbl).at j hlt
            obtain ⟨e0, e1, e2⟩ := (HM5.out.below hbl).cut.at j hlt
            simp only [Nat.zero_add] at e0 e1 e2
            have Hms := Lib.hid (mayAll_snoc ds j hlt)
            have hdl := longB_get HlL.out j hlt
            generalize dget ds j = d at *
            have hne := run_neq_dec d d
            rw [show sameB d d = true from (sameB_iff d d).2 rfl] at hne
            have hj2 : (j : Int) < ds.length + 1 := by omega
            go_wp2_with fail
            go_quiet (fail)
            clear hne e0 e1 e2
            cases hf : mayAll (ds.take j) with
            | true =>
              have Hf := Lib.hid hf
              clear hf
              go_wp2_with fail
              refine (mayR_calls _ d (by omega)).mono ?_
              rintro e w6 ⟨rfl, hbm⟩
              have hbn : Below w5.heap.size w5 w6 := (below_drewN hbl _).trans (hbm.mono (by simpa using hbl.size))
              clear hbm hbl c0 c1 c2
              go_wp2_with fail
              go_roundg (ds.length - (j + 1))
              case measure => have := Hk.out; omega
              case rel => exact ⟨j + 1, rfl, by omega, by go_num, by rw [Hms.out, Hf.out, Bool.true_and], hbn⟩
            | false =>
              have Hf := Lib.hid hf
              clear hf
              have hbn := fun n => below_drewN hbl n
              clear hbl c0 c1 c2
              go_wp2_with fail
              go_roundg (ds.length - (j + 1))
              case measure => have := Hk.out; omega
              case rel => exact ⟨j + 1, rfl, by omega, by go_num, by rw [Hms.out, Hf.out, Bool.false_and], hbn _⟩
          · have hlt2 : ¬ (j : Int) < ds.length := by omega
            obtain rfl : j = ds.length := by omega
            have c1 := (HM5.out.below hbl).last
            simp only [Nat.zero_add, d77] at c1
            rw [List.take_of_length_le (Nat.le_refl _)]
            clear hlt hlt2 hj Hk
            have HMX : Hid True := True.intro
            clear HMX
            have H6 := Lib.hid (H5.out.under hbl)
            have Ht6 := Lib.hid (Ht5.out.below hbl)
            have HL6 := Lib.hid (HL5.out.below hbl)
            have hbel6 := hbel5.trans (hbl.mono hbel5.size)
            clear hbl H5 Ht5 HL5 HM5 hbel5
            go_upto_if 84 with fail
            clear c1
            go_cut [9, 10, 12, 13] from 45 to 106 (fun s1 s2 u v wc => AllAt wc [(w.heap.size, a), (w.heap.size + 1, b)] ∧ Tab wc ∧ Below w.heap.size w wc)
            case first =>
              cases hf : mayAll ds with
              | true =>
                have kx0 : wr.cell? ⟨w4.heap.size, 0, none⟩ = some (.bool x.neg) := (H6.out (w4.heap.size, x) (by simp)).c0
                have kx1 : wr.cell? ⟨w4.heap.size, 1, none⟩ = some (.string ⟨x.digits.toArray⟩) := (H6.out (w4.heap.size, x) (by simp)).c1
                have kx2 : wr.cell? ⟨w4.heap.size, 2, none⟩ = some (.int .i64 x.exp) := (H6.out (w4.heap.size, x) (by simp)).c2
                have hr := Hsr.out _ _ (HL6.out.decs (by omega) HlL.out) hf
                clear hf Hsr Hno
                have Hr := Lib.hid hr
                clear hr
                go_wp2_with fail
                refine Hr.out.mono ?_
                rintro e w7 ⟨rfl, hc7⟩
                have H7 := Lib.hid (H6.out.under hc7)
                have Ht7 := Lib.hid (Ht6.out.below hc7)
                have hbel7 := hbel6.trans (hc7.mono hbel6.size)
                clear hc7 H6 Ht6 HL6 hbel6 Hr kx0 kx1 kx2
                have H8 := Lib.hid ((H7.out.alloc (Obj.cells #[Value.bool x.neg, Value.string { data := x.digits.toArray }, Value.int IntKind.i64 x.exp] 24)).push (DecAt.at w7 x _ rfl))
                have Ht8 := Lib.hid (Ht7.out.alloc (Obj.cells #[Value.bool x.neg, Value.string { data := x.digits.toArray }, Value.int IntKind.i64 x.exp] 24))
                have hbel8 := hbel7.alloc hbel7.size (Obj.cells #[Value.bool x.neg, Value.string { data := x.digits.toArray }, Value.int IntKind.i64 x.exp] 24)
                clear H7 Ht7 hbel7
                have kx0 : (w7.alloc (Obj.cells #[Value.bool x.neg, Value.string { data := x.digits.toArray }, Value.int IntKind.i64 x.exp] 24)).cell? ⟨w4.heap.size, 0, none⟩ = some (.bool x.neg) := (H8.out (w4.heap.size, x) (by simp)).c0
                have kx1 : (w7.alloc (Obj.cells #[Value.bool x.neg, Value.string { data := x.digits.toArray }, Value.int IntKind.i64 x.exp] 24)).cell? ⟨w4.heap.size, 1, none⟩ = some (.string ⟨x.digits.toArray⟩) := (H8.out (w4.heap.size, x) (by simp)).c1
                have kx2 : (w7.alloc (Obj.cells #[Value.bool x.neg, Value.string { data := x.digits.toArray }, Value.int IntKind.i64 x.exp] 24)).cell? ⟨w4.heap.size, 2, none⟩ = some (.int .i64 x.exp) := (H8.out (w4.heap.size, x) (by simp)).c2
                have ky0 : (w7.alloc (Obj.cells #[Value.bool x.neg, Value.string { data := x.digits.toArray }, Value.int IntKind.i64 x.exp] 24)).cell? ⟨w7.heap.size, 0, none⟩ = some (.bool x.neg) := (H8.out (w7.heap.size, x) (by simp)).c0
                have ky1 : (w7.alloc (Obj.cells #[Value.bool x.neg, Value.string { data := x.digits.toArray }, Value.int IntKind.i64 x.exp] 24)).cell? ⟨w7.heap.size, 1, none⟩ = some (.string ⟨x.digits.toArray⟩) := (H8.out (w7.heap.size, x) (by simp)).c1
                have ky2 : (w7.alloc (Obj.cells #[Value.bool x.neg, Value.string { data := x.digits.toArray }, Value.int IntKind.i64 x.exp] 24)).cell? ⟨w7.heap.size, 2, none⟩ = some (.int .i64 x.exp) := (H8.out (w7.heap.size, x) (by simp)).c2
                have hne := run_neq_dec x x
                rw [show sameB x x = true from (sameB_iff x x).2 rfl] at hne
                go_wp2_with (go_at_call 11; refine (num_calls _ _).mono ?_; rintro e w88 ⟨rfl, rfl⟩)
                go_meet
                exact ⟨fun p hp => H8.out p (by simp only [List.mem_cons, List.not_mem_nil, or_false] at hp ⊢; rcases hp with rfl | rfl <;> simp), Ht8.out, hbel8⟩
              | false =>
                obtain ⟨rfl, rfl⟩ := Prod.mk.inj (Hno.out hf)
                clear hf Hno Hsr
                have kx0 : wr.cell? ⟨w4.heap.size, 0, none⟩ = some (.bool false) := (H6.out (w4.heap.size, Dec.zero) (by simp)).c0
                have kx1 : wr.cell? ⟨w4.heap.size, 1, none⟩ = some (.string ⟨#[]⟩) := (H6.out (w4.heap.size, Dec.zero) (by simp)).c1
                have kx2 : wr.cell? ⟨w4.heap.size, 2, none⟩ = some (.int .i64 0) := (H6.out (w4.heap.size, Dec.zero) (by simp)).c2
                go_wp2_with (go_at_call 11; refine (num_calls _ _).mono ?_; rintro e w88 ⟨rfl, rfl⟩)
                go_meet
                exact ⟨fun p hp => H6.out p (by simp only [List.mem_cons, List.not_mem_nil, or_false] at hp ⊢; rcases hp with rfl | rfl <;> simp), Ht6.out, hbel6⟩
            case rest =>
              obtain ⟨hcw, htc, hbc⟩ := hcut
              have H7 := Lib.hid hcw
              have Ht7 := Lib.hid htc
              have hbel7 := hbc
              clear hcw htc hbc H6 Ht6 hbel6 HL6 Hno Hsr HlL
              have H8 : Hid (AllAt wc [(w.heap.size, a), (w.heap.size + 1, b)]) := H7
              clear H7
              have H7 := H8
              clear H8
              have ka0 : wc.cell? ⟨w.heap.size, 0, none⟩ = some (.bool a.neg) := (H7.out (w.heap.size, a) (by simp)).c0
              have ka1 : wc.cell? ⟨w.heap.size, 1, none⟩ = some (.string ⟨a.digits.toArray⟩) := (H7.out (w.heap.size, a) (by simp)).c1
              have ka2 : wc.cell? ⟨w.heap.size, 2, none⟩ = some (.int .i64 a.exp) := (H7.out (w.heap.size, a) (by simp)).c2
              have kb0 : wc.cell? ⟨w.heap.size + 1, 0, none⟩ = some (.bool b.neg) := (H7.out (w.heap.size + 1, b) (by simp)).c0
              have kb1 : wc.cell? ⟨w.heap.size + 1, 1, none⟩ = some (.string ⟨b.digits.toArray⟩) := (H7.out (w.heap.size + 1, b) (by simp)).c1
              have kb2 : wc.cell? ⟨w.heap.size + 1, 2, none⟩ = some (.int .i64 b.exp) := (H7.out (w.heap.size + 1, b) (by simp)).c2
              go_wp2_with fail
              refine (compare_calls _ a b (by omega) (by omega)).mono ?_
              rintro e w8 ⟨rfl, hb8⟩
              have hc8 := hb8
              have H8 := Lib.hid (H7.out.under hc8)
              have Ht8 := Lib.hid (Ht7.out.below hc8)
              have hbel8 := hbel7.trans (hc8.mono hbel7.size)
              clear hb8 hc8 H7 Ht7 hbel7 ka0 ka1 ka2 kb0 kb1 kb2
              have Hno : Hid (goodB a b = false → cmpS a b = (0, 2) ∧ mulS a b = (Dec.zero, 2)) := sums_no
              have Hce : Hid (mayB a = true → mayB b = true → (cmpS a b).2 = 0) := cmp_yes
              have Hcr : Hid (∀ W : World, mayB a = true → mayB b = true → Calls Tryz.prog 16 #[.agg #[.bool a.neg, .string ⟨a.digits.toArray⟩, .int .i64 a.exp], .agg #[.bool b.neg, .string ⟨b.digits.toArray⟩, .int .i64 b.exp]] W fun e w' => e = .returned (.int .i64 (cmpS a b).1) ∧ Below W.heap.size W w') := fun W h1 h2 => compareR_calls W a b h1 h2
              have Hpr : Hid (∀ W : World, mayB a = true → mayB b = true → Calls Tryz.prog 15 #[.agg #[.bool a.neg, .string ⟨a.digits.toArray⟩, .int .i64 a.exp], .agg #[.bool b.neg, .string ⟨b.digits.toArray⟩, .int .i64 b.exp]] W fun e w' => e = .returned (.tuple #[DecV (mulS a b).1, .int .i64 (mulS a b).2]) ∧ Below W.heap.size W w') := fun W h1 h2 => productR_calls W a b h1 h2
              have Hmul : Hid (∀ W : World, Calls Tryz.prog 13 #[.agg #[.bool a.neg, .string ⟨a.digits.toArray⟩, .int .i64 a.exp], .agg #[.bool b.neg, .string ⟨b.digits.toArray⟩, .int .i64 b.exp]] W fun e w' => e = .returned (.tuple #[DecV (mulS a b).1, .int .i64 (mulS a b).2]) ∧ Below W.heap.size W w') := fun W => prod_calls W a b (by omega) (by omega)
              generalize cmpS a b = cq at *
              generalize mulS a b = mq at *
              obtain ⟨cc, eg⟩ := cq
              obtain ⟨m, em⟩ := mq
              simp only at *
              simp only [DecV] at Hpr Hmul
              have ka0 : w8.cell? ⟨w.heap.size, 0, none⟩ = some (.bool a.neg) := (H8.out (w.heap.size, a) (by simp)).c0
              have ka1 : w8.cell? ⟨w.heap.size, 1, none⟩ = some (.string ⟨a.digits.toArray⟩) := (H8.out (w.heap.size, a) (by simp)).c1
              have ka2 : w8.cell? ⟨w.heap.size, 2, none⟩ = some (.int .i64 a.exp) := (H8.out (w.heap.size, a) (by simp)).c2
              have kb0 : w8.cell? ⟨w.heap.size + 1, 0, none⟩ = some (.bool b.neg) := (H8.out (w.heap.size + 1, b) (by simp)).c0
              have kb1 : w8.cell? ⟨w.heap.size + 1, 1, none⟩ = some (.string ⟨b.digits.toArray⟩) := (H8.out (w.heap.size + 1, b) (by simp)).c1
              have kb2 : w8.cell? ⟨w.heap.size + 1, 2, none⟩ = some (.int .i64 b.exp) := (H8.out (w.heap.size + 1, b) (by simp)).c2
              go_wp2_with fail
              refine (Hmul.out _).mono ?_
              rintro e w9 ⟨rfl, hb9⟩
              have hc9 := hb9
              have H9 := Lib.hid (H8.out.under hc9)
              have Ht9 := Lib.hid (Ht8.out.below hc9)
              have hbel9 := hbel8.trans (hc9.mono hbel8.size)
              clear hb9 hc9 H8 Ht8 hbel8 ka0 ka1 ka2 kb0 kb1 kb2
              clear Hmul
              have H10 := Lib.hid ((H9.out.alloc (Obj.cells #[Value.bool m.neg, Value.string { data := m.digits.toArray }, Value.int IntKind.i64 m.exp] 24)).push (DecAt.at w9 m _ rfl))
              have Ht10 := Lib.hid (Ht9.out.alloc (Obj.cells #[Value.bool m.neg, Value.string { data := m.digits.toArray }, Value.int IntKind.i64 m.exp] 24))
              have hbel10 := hbel9.alloc hbel9.size (Obj.cells #[Value.bool m.neg, Value.string { data := m.digits.toArray }, Value.int IntKind.i64 m.exp] 24)
              clear H9 Ht9 hbel9
              have ka0 : (w9.alloc (Obj.cells #[Value.bool m.neg, Value.string { data := m.digits.toArray }, Value.int IntKind.i64 m.exp] 24)).cell? ⟨w.heap.size, 0, none⟩ = some (.bool a.neg) := (H10.out (w.heap.size, a) (by simp)).c0
              have ka1 : (w9.alloc (Obj.cells #[Value.bool m.neg, Value.string { data := m.digits.toArray }, Value.int IntKind.i64 m.exp] 24)).cell? ⟨w.heap.size, 1, none⟩ = some (.string ⟨a.digits.toArray⟩) := (H10.out (w.heap.size, a) (by simp)).c1
              have ka2 : (w9.alloc (Obj.cells #[Value.bool m.neg, Value.string { data := m.digits.toArray }, Value.int IntKind.i64 m.exp] 24)).cell? ⟨w.heap.size, 2, none⟩ = some (.int .i64 a.exp) := (H10.out (w.heap.size, a) (by simp)).c2
              go_wp2_with fail
              refine (neg_calls _ a (by omega)).mono ?_
              rintro e w11 ⟨rfl, hb11⟩
              have hc11 := hb11
              have H11 := Lib.hid (H10.out.under hc11)
              have Ht11 := Lib.hid (Ht10.out.below hc11)
              have hbel11 := hbel10.trans (hc11.mono hbel10.size)
              clear hb11 hc11 H10 Ht10 hbel10 ka0 ka1 ka2
              have Hny : Hid (mayB a = true → negS a = (negD a, 0)) := neg_yes
              have Hnn : Hid (mayB a = false → negS a = (Dec.zero, 2)) := neg_no
              generalize negS a = nq at *
              obtain ⟨n, en⟩ := nq
              simp only at *
              simp only [DecV]
              have H12 := Lib.hid ((H11.out.alloc (Obj.cells #[Value.bool n.neg, Value.string { data := n.digits.toArray }, Value.int IntKind.i64 n.exp] 24)).push (DecAt.at w11 n _ rfl))
              have Ht12 := Lib.hid (Ht11.out.alloc (Obj.cells #[Value.bool n.neg, Value.string { data := n.digits.toArray }, Value.int IntKind.i64 n.exp] 24))
              have hbel12 := hbel11.alloc hbel11.size (Obj.cells #[Value.bool n.neg, Value.string { data := n.digits.toArray }, Value.int IntKind.i64 n.exp] 24)
              clear H11 Ht11 hbel11
              go_upto_region 23 with fail
              generalize (w11.alloc (Obj.cells #[Value.bool n.neg, Value.string { data := n.digits.toArray }, Value.int IntKind.i64 n.exp] 24)) = w12 at *
              go_cut [19, 162] from 119 to 161 (fun s1 u wc => u = .bool false ∧ AllAt wc [(w9.heap.size, m), (w.heap.size, a), (w.heap.size + 1, b)] ∧ Tab wc ∧ Below w.heap.size w wc)
              case first =>
                clear Hno Hce Hcr Hpr
                cases hma : mayB a with
                | false =>
                  obtain ⟨rfl, rfl⟩ := Prod.mk.inj (Hnn.out hma)
                  have Hma := Lib.hid hma
                  clear hma Hnn Hny
                  have ka0 : w12.cell? ⟨w.heap.size, 0, none⟩ = some (.bool a.neg) := (H12.out (w.heap.size, a) (by simp)).c0
                  have ka1 : w12.cell? ⟨w.heap.size, 1, none⟩ = some (.string ⟨a.digits.toArray⟩) := (H12.out (w.heap.size, a) (by simp)).c1
                  have ka2 : w12.cell? ⟨w.heap.size, 2, none⟩ = some (.int .i64 a.exp) := (H12.out (w.heap.size, a) (by simp)).c2
                  go_wp2_with fail
                  refine (mayR_calls _ a (by omega)).mono ?_
                  rintro e w13 ⟨rfl, hb13⟩
                  have hc13 := hb13
                  have H13 := Lib.hid (H12.out.under hc13)
                  have Ht13 := Lib.hid (Ht12.out.below hc13)
                  have hbel13 := hbel12.trans (hc13.mono hbel12.size)
                  clear hb13 hc13 H12 Ht12 hbel12 ka0 ka1 ka2
                  rw [Hma.out]
                  have kn0 : w13.cell? ⟨w11.heap.size, 0, none⟩ = some (.bool false) := (H13.out (w11.heap.size, Dec.zero) (by simp)).c0
                  have kn1 : w13.cell? ⟨w11.heap.size, 1, none⟩ = some (.string ⟨#[]⟩) := (H13.out (w11.heap.size, Dec.zero) (by simp)).c1
                  have kn2 : w13.cell? ⟨w11.heap.size, 2, none⟩ = some (.int .i64 0) := (H13.out (w11.heap.size, Dec.zero) (by simp)).c2
                  have ka0 : w13.cell? ⟨w.heap.size, 0, none⟩ = some (.bool a.neg) := (H13.out (w.heap.size, a) (by simp)).c0
                  have ka1 : w13.cell? ⟨w.heap.size, 1, none⟩ = some (.string ⟨a.digits.toArray⟩) := (H13.out (w.heap.size, a) (by simp)).c1
                  have ka2 : w13.cell? ⟨w.heap.size, 2, none⟩ = some (.int .i64 a.exp) := (H13.out (w.heap.size, a) (by simp)).c2
                  go_wp2_with (go_at_call 11; refine (num_calls _ _).mono ?_; rintro e w88 ⟨rfl, rfl⟩)
                  refine (mayR_calls _ a (by omega)).mono ?_
                  rintro e w14 ⟨rfl, hb14⟩
                  have hc14 := hb14
                  have H14 := Lib.hid (H13.out.under hc14)
                  have Ht14 := Lib.hid (Ht13.out.below hc14)
                  have hbel14 := hbel13.trans (hc14.mono hbel13.size)
                  clear hb14 hc14 H13 Ht13 hbel13 kn0 kn1 kn2 ka0 ka1 ka2
                  rw [Hma.out]
                  go_wp2_with (go_at_call 11; refine (num_calls _ _).mono ?_; rintro e w88 ⟨rfl, rfl⟩)
                  go_meet
                  exact ⟨rfl, fun p hp => H14.out p (List.mem_cons_of_mem _ hp), Ht14.out, hbel14⟩
                | true =>
                  obtain ⟨rfl, rfl⟩ := Prod.mk.inj (Hny.out hma)
                  have Hma := Lib.hid hma
                  clear hma Hnn Hny
                  have ka0 : w12.cell? ⟨w.heap.size, 0, none⟩ = some (.bool a.neg) := (H12.out (w.heap.size, a) (by simp)).c0
                  have ka1 : w12.cell? ⟨w.heap.size, 1, none⟩ = some (.string ⟨a.digits.toArray⟩) := (H12.out (w.heap.size, a) (by simp)).c1
                  have ka2 : w12.cell? ⟨w.heap.size, 2, none⟩ = some (.int .i64 a.exp) := (H12.out (w.heap.size, a) (by simp)).c2
                  go_wp2_with fail
                  refine (mayR_calls _ a (by omega)).mono ?_
                  rintro e w13 ⟨rfl, hb13⟩
                  have hc13 := hb13
                  have H13 := Lib.hid (H12.out.under hc13)
                  have Ht13 := Lib.hid (Ht12.out.below hc13)
                  have hbel13 := hbel12.trans (hc13.mono hbel12.size)
                  clear hb13 hc13 H12 Ht12 hbel12 ka0 ka1 ka2
                  rw [Hma.out]
                  have ka0 : w13.cell? ⟨w.heap.size, 0, none⟩ = some (.bool a.neg) := (H13.out (w.heap.size, a) (by simp)).c0
                  have ka1 : w13.cell? ⟨w.heap.size, 1, none⟩ = some (.string ⟨a.digits.toArray⟩) := (H13.out (w.heap.size, a) (by simp)).c1
                  have ka2 : w13.cell? ⟨w.heap.size, 2, none⟩ = some (.int .i64 a.exp) := (H13.out (w.heap.size, a) (by simp)).c2
                  go_wp2_with fail
                  refine (mayR_calls _ a (by omega)).mono ?_
                  rintro e w14 ⟨rfl, hb14⟩
                  have hc14 := hb14
                  have H14 := Lib.hid (H13.out.under hc14)
                  have Ht14 := Lib.hid (Ht13.out.below hc14)
                  have hbel14 := hbel13.trans (hc14.mono hbel13.size)
                  clear hb14 hc14 H13 Ht13 hbel13 ka0 ka1 ka2
                  rw [Hma.out]
                  have ha := H14.out (w.heap.size, a) (by simp)
                  have hn := H14.out (w11.heap.size, negD a) (by simp)
                  obtain ⟨ha0, ha1, ha2, -⟩ := ha
                  obtain ⟨hn0, hn1, hn2, -⟩ := hn
                  simp only [negD] at hn0 hn1 hn2
                  have hdd : a.digits = [] ∨ ∃ ch tl, a.digits = ch :: tl := by
                    cases a.digits with
                    | nil => exact .inl rfl
                    | cons ch tl => exact .inr ⟨ch, tl, rfl⟩
                  rcases hdd with hd | ⟨ch, tl, hd⟩
                  ·
                    rw [hd] at ha1 hn0 hn1
                    simp only [List.isEmpty_nil, Bool.not_true, Bool.and_false] at hn0
                    have hne := neq_self ⟨false, [], a.exp⟩
                    simp only at hne
                    clear hd
                    go_wp2_with (go_at_call 11; refine (num_calls _ _).mono ?_; rintro e w88 ⟨rfl, rfl⟩)
                    go_meet
                    exact ⟨rfl, fun p hp => H14.out p (List.mem_cons_of_mem _ hp), Ht14.out, hbel14⟩
                  ·
                    rw [hd] at ha1 hn0 hn1
                    simp only [List.isEmpty_cons, Bool.not_false, Bool.and_true] at hn0
                    have hne := neq_self ⟨!a.neg, ch :: tl, a.exp⟩
                    simp only at hne
                    clear hd
                    go_wp2_with (go_at_call 11; refine (num_calls _ _).mono ?_; rintro e w88 ⟨rfl, rfl⟩)
                    go_meet
                    exact ⟨rfl, fun p hp => H14.out p (List.mem_cons_of_mem _ hp), Ht14.out, hbel14⟩
              case rest =>
                obtain ⟨rfl, hcw, htc, hbc⟩ := hcut
                have H20 := Lib.hid hcw
                have Ht20 := Lib.hid htc
                have hbel20 := hbc
                clear hcw htc hbc H12 Ht12 hbel12 Hny Hnn
                have ka0 : wc.cell? ⟨w.heap.size, 0, none⟩ = some (.bool a.neg) := (H20.out (w.heap.size, a) (by simp)).c0
                have ka1 : wc.cell? ⟨w.heap.size, 1, none⟩ = some (.string ⟨a.digits.toArray⟩) := (H20.out (w.heap.size, a) (by simp)).c1
                have ka2 : wc.cell? ⟨w.heap.size, 2, none⟩ = some (.int .i64 a.exp) := (H20.out (w.heap.size, a) (by simp)).c2
                cases hma : mayB a with
                | false =>
                  have Hma := Lib.hid hma
                  clear hma
                  go_wp2_with fail
                  refine (mayR_calls _ a (by omega)).mono ?_
                  rintro e w21 ⟨rfl, hb21⟩
                  have hc21 := hb21
                  have H21 := Lib.hid (H20.out.under hc21)
                  have Ht21 := Lib.hid (Ht20.out.below hc21)
                  have hbel21 := hbel20.trans (hc21.mono hbel20.size)
                  clear hb21 hc21 H20 Ht20 hbel20 ka0 ka1 ka2
                  rw [Hma.out]
                  have hg : goodB a b = false := by unfold goodB; rw [Hma.out]; simp
                  obtain ⟨hx1, hx2⟩ := Hno.out hg
                  obtain ⟨rfl, rfl⟩ := Prod.mk.inj hx1
                  obtain ⟨rfl, rfl⟩ := Prod.mk.inj hx2
                  clear hx1 hx2 hg Hno Hce Hcr Hpr
                  have km0 : w21.cell? ⟨w9.heap.size, 0, none⟩ = some (.bool false) := (H21.out (w9.heap.size, Dec.zero) (by simp)).c0
                  have km1 : w21.cell? ⟨w9.heap.size, 1, none⟩ = some (.string ⟨#[]⟩) := (H21.out (w9.heap.size, Dec.zero) (by simp)).c1
                  have km2 : w21.cell? ⟨w9.heap.size, 2, none⟩ = some (.int .i64 0) := (H21.out (w9.heap.size, Dec.zero) (by simp)).c2
                  go_wp2_with (go_at_call 11; refine (num_calls _ _).mono ?_; rintro e w88 ⟨rfl, rfl⟩)
                  refine (works_calls _ Ht21.out).mono ?_
                  rintro e wz ⟨rfl, hbz⟩
                  have hbf := hbel21.trans (hbz.mono hbel21.size)
                  clear hbz H21 Ht21 hbel21 km0 km1 km2
                  go_wp2_with fail
                  go_ret
                  exact ⟨rfl, hbf⟩
                | true =>
                  have Hma := Lib.hid hma
                  clear hma
                  go_wp2_with fail
                  refine (mayR_calls _ a (by omega)).mono ?_
                  rintro e w21 ⟨rfl, hb21⟩
                  have hc21 := hb21
                  have H21 := Lib.hid (H20.out.under hc21)
                  have Ht21 := Lib.hid (Ht20.out.below hc21)
                  have hbel21 := hbel20.trans (hc21.mono hbel20.size)
                  clear hb21 hc21 H20 Ht20 hbel20 ka0 ka1 ka2
                  rw [Hma.out]
                  have kb0 : w21.cell? ⟨w.heap.size + 1, 0, none⟩ = some (.bool b.neg) := (H21.out (w.heap.size + 1, b) (by simp)).c0
                  have kb1 : w21.cell? ⟨w.heap.size + 1, 1, none⟩ = some (.string ⟨b.digits.toArray⟩) := (H21.out (w.heap.size + 1, b) (by simp)).c1
                  have kb2 : w21.cell? ⟨w.heap.size + 1, 2, none⟩ = some (.int .i64 b.exp) := (H21.out (w.heap.size + 1, b) (by simp)).c2
                  cases hmb : mayB b with
                  | false =>
                    have Hmb := Lib.hid hmb
                    clear hmb
                    go_wp2_with fail
                    refine (mayR_calls _ b (by omega)).mono ?_
                    rintro e w22 ⟨rfl, hb22⟩
                    have hc22 := hb22
                    have H22 := Lib.hid (H21.out.under hc22)
                    have Ht22 := Lib.hid (Ht21.out.below hc22)
                    have hbel22 := hbel21.trans (hc22.mono hbel21.size)
                    clear hb22 hc22 H21 Ht21 hbel21 kb0 kb1 kb2
                    rw [Hmb.out]
                    have hg : goodB a b = false := by unfold goodB; rw [Hmb.out]; simp
                    obtain ⟨hx1, hx2⟩ := Hno.out hg
                    obtain ⟨rfl, rfl⟩ := Prod.mk.inj hx1
                    obtain ⟨rfl, rfl⟩ := Prod.mk.inj hx2
                    clear hx1 hx2 hg Hno Hce Hcr Hpr
                    have km0 : w22.cell? ⟨w9.heap.size, 0, none⟩ = some (.bool false) := (H22.out (w9.heap.size, Dec.zero) (by simp)).c0
                    have km1 : w22.cell? ⟨w9.heap.size, 1, none⟩ = some (.string ⟨#[]⟩) := (H22.out (w9.heap.size, Dec.zero) (by simp)).c1
                    have km2 : w22.cell? ⟨w9.heap.size, 2, none⟩ = some (.int .i64 0) := (H22.out (w9.heap.size, Dec.zero) (by simp)).c2
                    go_wp2_with (go_at_call 11; refine (num_calls _ _).mono ?_; rintro e w88 ⟨rfl, rfl⟩)
                    refine (works_calls _ Ht22.out).mono ?_
                    rintro e wz ⟨rfl, hbz⟩
                    have hbf := hbel22.trans (hbz.mono hbel22.size)
                    clear hbz H22 Ht22 hbel22 km0 km1 km2
                    go_wp2_with fail
                    go_ret
                    exact ⟨rfl, hbf⟩
                  | true =>
                    have Hmb := Lib.hid hmb
                    have hce := Hce.out Hma.out hmb
                    subst hce
                    clear hmb Hno Hce
                    go_wp2_with fail
                    refine (mayR_calls _ b (by omega)).mono ?_
                    rintro e w22 ⟨rfl, hb22⟩
                    have hc22 := hb22
                    have H22 := Lib.hid (H21.out.under hc22)
                    have Ht22 := Lib.hid (Ht21.out.below hc22)
                    have hbel22 := hbel21.trans (hc22.mono hbel21.size)
                    clear hb22 hc22 H21 Ht21 hbel21 kb0 kb1 kb2
                    rw [Hmb.out]
                    have ka0 : w22.cell? ⟨w.heap.size, 0, none⟩ = some (.bool a.neg) := (H22.out (w.heap.size, a) (by simp)).c0
                    have ka1 : w22.cell? ⟨w.heap.size, 1, none⟩ = some (.string ⟨a.digits.toArray⟩) := (H22.out (w.heap.size, a) (by simp)).c1
                    have ka2 : w22.cell? ⟨w.heap.size, 2, none⟩ = some (.int .i64 a.exp) := (H22.out (w.heap.size, a) (by simp)).c2
                    have kb0 : w22.cell? ⟨w.heap.size + 1, 0, none⟩ = some (.bool b.neg) := (H22.out (w.heap.size + 1, b) (by simp)).c0
                    have kb1 : w22.cell? ⟨w.heap.size + 1, 1, none⟩ = some (.string ⟨b.digits.toArray⟩) := (H22.out (w.heap.size + 1, b) (by simp)).c1
                    have kb2 : w22.cell? ⟨w.heap.size + 1, 2, none⟩ = some (.int .i64 b.exp) := (H22.out (w.heap.size + 1, b) (by simp)).c2
                    go_wp2_with fail
                    refine (Hpr.out _ Hma.out Hmb.out).mono ?_
                    rintro e w23 ⟨rfl, hb23⟩
                    have hc23 := hb23
                    have H23 := Lib.hid (H22.out.under hc23)
                    have Ht23 := Lib.hid (Ht22.out.below hc23)
                    have hbel23 := hbel22.trans (hc23.mono hbel22.size)
                    clear hb23 hc23 H22 Ht22 hbel22 ka0 ka1 ka2 kb0 kb1 kb2
                    have H24 := Lib.hid ((H23.out.alloc (Obj.cells #[Value.bool m.neg, Value.string { data := m.digits.toArray }, Value.int IntKind.i64 m.exp] 24)).push (DecAt.at w23 m _ rfl))
                    have Ht24 := Lib.hid (Ht23.out.alloc (Obj.cells #[Value.bool m.neg, Value.string { data := m.digits.toArray }, Value.int IntKind.i64 m.exp] 24))
                    have hbel24 := hbel23.alloc hbel23.size (Obj.cells #[Value.bool m.neg, Value.string { data := m.digits.toArray }, Value.int IntKind.i64 m.exp] 24)
                    clear H23 Ht23 hbel23
                    have ka0 : (w23.alloc (Obj.cells #[Value.bool m.neg, Value.string { data := m.digits.toArray }, Value.int IntKind.i64 m.exp] 24)).cell? ⟨w.heap.size, 0, none⟩ = some (.bool a.neg) := (H24.out (w.heap.size, a) (by simp)).c0
                    have ka1 : (w23.alloc (Obj.cells #[Value.bool m.neg, Value.string { data := m.digits.toArray }, Value.int IntKind.i64 m.exp] 24)).cell? ⟨w.heap.size, 1, none⟩ = some (.string ⟨a.digits.toArray⟩) := (H24.out (w.heap.size, a) (by simp)).c1
                    have ka2 : (w23.alloc (Obj.cells #[Value.bool m.neg, Value.string { data := m.digits.toArray }, Value.int IntKind.i64 m.exp] 24)).cell? ⟨w.heap.size, 2, none⟩ = some (.int .i64 a.exp) := (H24.out (w.heap.size, a) (by simp)).c2
                    have kb0 : (w23.alloc (Obj.cells #[Value.bool m.neg, Value.string { data := m.digits.toArray }, Value.int IntKind.i64 m.exp] 24)).cell? ⟨w.heap.size + 1, 0, none⟩ = some (.bool b.neg) := (H24.out (w.heap.size + 1, b) (by simp)).c0
                    have kb1 : (w23.alloc (Obj.cells #[Value.bool m.neg, Value.string { data := m.digits.toArray }, Value.int IntKind.i64 m.exp] 24)).cell? ⟨w.heap.size + 1, 1, none⟩ = some (.string ⟨b.digits.toArray⟩) := (H24.out (w.heap.size + 1, b) (by simp)).c1
                    have kb2 : (w23.alloc (Obj.cells #[Value.bool m.neg, Value.string { data := m.digits.toArray }, Value.int IntKind.i64 m.exp] 24)).cell? ⟨w.heap.size + 1, 2, none⟩ = some (.int .i64 b.exp) := (H24.out (w.heap.size + 1, b) (by simp)).c2
                    go_wp2_with fail
                    refine (Hcr.out _ Hma.out Hmb.out).mono ?_
                    rintro e w25 ⟨rfl, hb25⟩
                    have hc25 := hb25
                    have H25 := Lib.hid (H24.out.under hc25)
                    have Ht25 := Lib.hid (Ht24.out.below hc25)
                    have hbel25 := hbel24.trans (hc25.mono hbel24.size)
                    clear hb25 hc25 H24 Ht24 hbel24 ka0 ka1 ka2 kb0 kb1 kb2
                    clear Hcr Hpr
                    have heq := run_eql_dec m m
                    rw [show sameB m m = true from (sameB_iff m m).2 rfl] at heq
                    have km0 : w25.cell? ⟨w9.heap.size, 0, none⟩ = some (.bool m.neg) := (H25.out (w9.heap.size, m) (by simp)).c0
                    have km1 : w25.cell? ⟨w9.heap.size, 1, none⟩ = some (.string ⟨m.digits.toArray⟩) := (H25.out (w9.heap.size, m) (by simp)).c1
                    have km2 : w25.cell? ⟨w9.heap.size, 2, none⟩ = some (.int .i64 m.exp) := (H25.out (w9.heap.size, m) (by simp)).c2
                    have kq0 : w25.cell? ⟨w23.heap.size, 0, none⟩ = some (.bool m.neg) := (H25.out (w23.heap.size, m) (by simp)).c0
                    have kq1 : w25.cell? ⟨w23.heap.size, 1, none⟩ = some (.string ⟨m.digits.toArray⟩) := (H25.out (w23.heap.size, m) (by simp)).c1
                    have kq2 : w25.cell? ⟨w23.heap.size, 2, none⟩ = some (.int .i64 m.exp) := (H25.out (w23.heap.size, m) (by simp)).c2
                    go_wp2_with (go_at_call 11; refine (num_calls _ _).mono ?_; rintro e w88 ⟨rfl, rfl⟩)
                    refine (works_calls _ Ht25.out).mono ?_
                    rintro e wz ⟨rfl, hbz⟩
                    have hbf := hbel25.trans (hbz.mono hbel25.size)
                    clear hbz H25 Ht25 hbel25 km0 km1 km2 kq0 kq1 kq2
                    go_wp2_with fail
                    go_ret
                    exact ⟨rfl, hbf⟩
end Go.Proofs.YtkakmjdfecbhaaaGreatDoor
