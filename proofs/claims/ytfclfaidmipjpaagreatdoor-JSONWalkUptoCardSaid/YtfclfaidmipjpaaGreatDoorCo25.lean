/- Texts of this claim, joined: Jp13, Put, JpI. -/
import Derived.Test.YtfclfaidmipjpaaGreatDoorCo24
namespace Go.Proofs.YtfclfaidmipjpaaGreatDoor
set_option maxRecDepth 100000
set_option maxHeartbeats 20000000
open Go.Lib (hid)
open Go.RowKit
theorem idx_split (c : UInt8) : ∀ l : List UInt8, (Lib.indexByte l c = -1 ∧ ∀ d ∈ l, d ≠ c) ∨ ∃ x y, l = x ++ c :: y ∧ (∀ d ∈ x, d ≠ c) ∧ Lib.indexByte l c = (x.length : Int)
 | [] => .inl ⟨rfl, by simp⟩
 | b :: l => by
  by_cases hb : b = c
  ·subst hb
   exact .inr ⟨[], l, rfl, by simp, by simp [Lib.indexByte]⟩
  have hne : (b == c) = false := by rw [beq_eq_false_iff_ne]; exact hb
  rcases idx_split c l with ⟨h1, h2⟩ | ⟨x, y, rfl, h2, h3⟩
  ·refine .inl ⟨by simp [Lib.indexByte, hne, h1], fun d hd => ?_⟩
   rcases List.mem_cons.1 hd with rfl | hd
   ·exact hb
   exact h2 d hd
  refine .inr ⟨b :: x, y, rfl, fun d hd => ?_, ?_⟩
  ·rcases List.mem_cons.1 hd with rfl | hd
   ·exact hb
   exact h2 d hd
  unfold Lib.indexByte
  rw [hne, h3]
  have : ((x.length : Int) == -1) = false := by rw [beq_eq_false_iff_ne]; omega
  rw [this]
  simp
theorem ext_take (l : List UInt8) (a : Nat) : (⟨l.toArray⟩ : ByteArray).extract 0 a = ⟨(l.take a).toArray⟩ := by rw [Lib.extract_eq]; rfl
theorem esc_len' {z s b r : List UInt8} {a : Bool} (h : escS z s = some (b, r, a)) : r.length < s.length := by
 obtain ⟨p, hp, rfl⟩ := esc_suf h
 rw [List.length_append]
 have := List.length_pos_iff.2 hp
 omega
theorem let_le (x : Nat) : (letS x).length ≤ 4 := by
 unfold letS
 split
 ·simp
 split
 ·simp
 split <;> simp
theorem row_belowB {B R : Nat} {w w' : World} {l : List Value} (h : RowAt w R l) (hb : Below B w w') (hR : R < B) : RowAt w' R l :=
 ⟨fun i v hi => (hb.cell (p := ⟨R, i, none⟩) hR).trans (h.cell i v hi), fun i => (hb.frozen (p := ⟨R, i, none⟩) hR).trans (h.free i), Nat.lt_of_lt_of_le h.lt hb.size⟩
theorem only_belowB {B R : Nat} {w wr w' : World} (h : OnlyR R w wr) (hb : Below B wr w') (hB : w.heap.size ≤ B) : OnlyR R w w' :=
 ⟨hb.os.trans h.os, hb.tape.trans h.tape, hb.output.trans h.output, Nat.le_trans h.size hb.size, fun k hk hn => (hb.block k (by omega)).trans (h.block k hk hn)⟩
theorem esc_four {s b r : List UInt8} {a : Bool} (h : escS [0] s = some (b, r, a)) : b.length ≤ 4 := by
 cases s with
 | nil => cases h
 | cons c t =>
  simp only [escS] at h
  split at h
  ·simp only [Option.some.injEq, Prod.mk.injEq] at h
   rw [← h.1]; simp
  split at h
  ·split at h
   ·cases h
   split at h
   ·split at h
    ·rename_i bs t4 hp
     simp only [Option.some.injEq, Prod.mk.injEq] at h
     rw [← h.1]
     unfold pairS at hp
     split at hp
     ·split at hp
      ·split at hp
       ·split at hp
        ·simp only [Option.some.injEq, Prod.mk.injEq] at hp
         rw [← hp.1]; exact let_le _
        cases hp
       cases hp
      cases hp
     cases hp
    simp only [Option.some.injEq, Prod.mk.injEq] at h
    rw [← h.1]; simp
   simp only [Option.some.injEq, Prod.mk.injEq] at h
   rw [← h.1]; exact let_le _
  cases h
theorem un_four : ∀ (n : Nat) (s u : List UInt8) (a : Bool), unN [0] n s = some (u, a) → u.length ≤ 4 * s.length
 | 0, s, u, a, h => by simp [unN] at h
 | n + 1, [], u, a, h => by simp [unN] at h; simp [h.1]
 | n + 1, c :: t, u, a, h => by
  simp only [unN] at h
  split at h
  ·split at h
   ·cases h
   rename_i b t2 a1 he
   split at h
   ·cases h
   rename_i u2 a2 hu
   simp only [Option.some.injEq, Prod.mk.injEq] at h
   have h1 := esc_four he
   have h2 := esc_len' he
   have h3 := un_four n _ _ _ hu
   rw [← h.1, List.length_append, List.length_cons]
   omega
  split at h
  ·cases h
  rename_i u2 a2 hu
  simp only [Option.some.injEq, Prod.mk.injEq] at h
  have h3 := un_four n _ _ _ hu
  rw [← h.1, List.length_cons, List.length_cons]
  omega
theorem unS_four {s u : List UInt8} {a : Bool} (h : unS [0] s = some (u, a)) : u.length ≤ 4 * s.length := un_four _ _ _ _ h
theorem qtS_four {s u r : List UInt8} {a : Bool} (h : qtS [0] s = some (u, r, a)) : u.length ≤ 4 * s.length := by
 obtain ⟨body, rfl, h2⟩ := qtS_un h
 have := unS_four h2
 rw [List.length_append]
 omega
theorem textP_calls (w : World) {R : Nat} {t : List UInt8} {al tw gr : Bool} (h : PdAt w R (34 :: t) al tw gr) (hl : t.length ≤ 100000000) {u r : List UInt8} {a : Bool} (hq : qtS [0] t = some (u, r, a)) :
  Calls Tryz.prog 83 #[.pointer (some ⟨R, 0, none⟩)] w fun e w' => e = .returned (.string ⟨u.toArray⟩) ∧ OnlyR R w w' ∧ PdAt w' R r (al || a) tw gr := by
 obtain ⟨body, hbody, hun⟩ := qtS_un hq
 obtain ⟨s, hs⟩ : ∃ s, (34 : UInt8) :: t = s := ⟨_, rfl⟩
 have hsl : s.length = body.length + r.length + 2 := by rw [← hs, hbody]; simp; omega
 have hqd : qdS s = some r := by rw [← hs]; show (if (34 : UInt8) = 34 then qlS t else none) = _; rw [if_pos rfl, qlS_qt [0], hq]; rfl
 have hd1 : s.drop 1 = body ++ 34 :: r := by rw [← hs, hbody]; rfl
 rw [hs] at h
 have hlb : body.length + r.length ≤ 100000000 := by have : t.length = body.length + (r.length + 1) := by rw [hbody]; simp
                                                     omega
 have hext1 : (⟨s.toArray⟩ : ByteArray).extract 1 (body.length + 2 - 1) = ⟨body.toArray⟩ := by
  rw [Lib.extract_eq]
  show (⟨((s.drop 1).take (body.length + 2 - 1 - 1)).toArray⟩ : ByteArray) = _
  rw [hd1]
  simp
 have hext1b : (⟨s.toArray⟩ : ByteArray).extract 1 (body.length + 1) = ⟨body.toArray⟩ := hext1
 have hext2 : (⟨s.toArray⟩ : ByteArray).extract (body.length + 2) s.length = ⟨r.toArray⟩ := by
  rw [ext_drop]
  rw [show s.drop (body.length + 2) = (s.drop 1).drop (body.length + 1) from by rw [List.drop_drop]; congr 1; omega, hd1]
  simp
 have HUN := hid hun
 have HX1 := hid hext1
 have HQD := hid hqd
 have HSL := hid hsl
 have c0 := h.cell 0 _ rfl
 have f0 := h.free 0
 have H := hid h
 clear hs hbody hq hd1 hun hqd h
 go_enter Tryz.func83, Tryz.ntmps83
 go_wp2_with fail
 refine (quotedP_calls w s (by omega)).mono ?_
 rintro e w1 ⟨hb1, n, rfl, hn⟩
 obtain ⟨hn0, hnl, hn2⟩ : n = body.length + 2 ∧ (body.length : Int) + 2 ≤ (s.length : Int) ∧ (1 : Int) ≤ (body.length : Int) + 2 - 1 := by
  have h9 := HQD.out
  rcases hn with ⟨_, h1⟩ | ⟨_, hn1, h1⟩
  ·rw [h1] at h9; cases h9
  rw [h1] at h9
  have h8 := congrArg List.length (Option.some.inj h9)
  rw [List.length_drop] at h8
  have := HSL.out
  exact ⟨by omega, by omega, by omega⟩
 have hni : (n : Int) = (body.length : Int) + 2 := by omega
 rw [hni]
 have HP1 := hid (H.out.below hb1)
 have HO1 := hid (OnlyR.ofBelow (R := R) hb1)
 have c0 := HP1.out.cell 0 _ rfl
 have f0 := HP1.out.free 0
 clear hn hn0 hni hb1 hsl
 have HS := hid (HP1.out.text r)
 have HO2 := hid (HO1.out.set 0 (.string ⟨r.toArray⟩))
 go_upto_region 4 with fail
 generalize w1.setCell ⟨R, 0, none⟩ (.string ⟨r.toArray⟩) = w2 at *
 clear c0 f0 HP1 HO1 hnl hn2 hext1 hext1b hext2
 have HBs : Hid (w.heap.size ≤ w2.heap.size) := hid HO2.out.size
 have hbl : Bld w2.heap.size w2.heap.size [] (w2.alloc (.cells #[.pointer none, .slice none 0 0] 159)) := Bld.new w2
 have HR2 := hid (HS.out.alloc (.cells #[.pointer none, .slice none 0 0] 159))
 have HO3 := hid (HO2.out.trans (OnlyR.ofBelow (R := R) ((Below.refl _ w2).alloc (Nat.le_refl _) (.cells #[.pointer none, .slice none 0 0] 159))))
 have HBL := hid hbl
 have HRB : Hid (R < w2.heap.size) := hid HS.out.lt
 clear hbl HS HO2
 go_wp2_with fail
 obtain ⟨B, hB⟩ : ∃ B, w2.heap.size = B := ⟨_, rfl⟩
 rw [hB] at HBL HBs HRB ⊢
 have HBz : Hid (B ≤ (w2.alloc (.cells #[.pointer none, .slice none 0 0] 159)).heap.size) := hid (by simp; omega)
 generalize w2.alloc (.cells #[.pointer none, .slice none 0 0] 159) = w3 at *
 clear hB
 go_loopg [4] body.length (fun k s4 wr => ∃ (bd acc u2 : List UInt8) (a1 a2 : Bool), k = bd.length ∧ bd.length ≤ body.length ∧ s4 = .string ⟨bd.toArray⟩ ∧ PdAt wr R r (al || a1) tw gr ∧ OnlyR R w wr ∧ Bld B B acc wr ∧ B ≤ wr.heap.size ∧ unS [0] bd = some (u2, a2) ∧ acc ++ u2 = u ∧ (a1 || a2) = a)
 case atStart => exact ⟨body, [], u, false, a, rfl, Nat.le_refl _, (by show Value.string ((⟨s.toArray⟩ : ByteArray).extract 1 (body.length + 2 - 1)) = _; rw [HX1.out]), by rw [Bool.or_false]; exact HR2.out, HO3.out, HBL.out, HBz.out, HUN.out, rfl, by simp⟩
 case round =>
  obtain ⟨bd, acc, u2, a1, a2, hk, hbl, rfl, hr, ho, hbb, hsz, hu2, hacc, haa⟩ := hrel
  have Hk := hid hk
  have HR := hid hr
  have HO := hid ho
  have HB := hid hbb
  have HU2 := hid hu2
  have HAC := hid hacc
  have HAA := hid haa
  have HSZ := hid hsz
  have HACL : Hid (acc.length ≤ 4 * body.length) := hid (by have h9 := unS_four HUN.out; rw [← hacc, List.length_append] at h9; omega)
  clear hk hr ho hbb hu2 hacc haa hsz HBL HR2 HO3
  by_cases hne : bd = []
  ·subst hne
   obtain ⟨rfl, rfl⟩ : u2 = [] ∧ a2 = false := by
    have h9 := HU2.out
    rw [unS_nil] at h9
    simp only [Option.some.injEq, Prod.mk.injEq] at h9
    exact ⟨h9.1.symm, h9.2.symm⟩
   have HF : Hid (acc = u ∧ a1 = a) := hid ⟨by have := HAC.out; rwa [List.append_nil] at this, by have := HAA.out; rwa [Bool.or_false] at this⟩
   clear HU2 HAC HAA hbl
   go_wp2_with fail
   refine (Tryz.Builder_String_any_k B B acc _ HB.out HSZ.out).mono ?_
   rintro e w4 ⟨rfl, _, hb4, _⟩
   have HO4 := hid (only_belowB HO.out hb4 HBs.out)
   have HR4 := hid (row_belowB HR.out hb4 HRB.out)
   clear hb4
   go_wp2_with fail
   go_ret
   exact ⟨by rw [← HF.out.1]; try rfl, HO4.out, by rw [← HF.out.2]; exact HR4.out⟩
  have hbl0 : 0 < bd.length := List.length_pos_iff.2 hne
  have hie : bd.isEmpty = false := by cases bd with | nil => exact absurd rfl hne | cons => rfl
  clear hne
  go_wp2_with fail
  refine (same (Tryz.strings_IndexByte ⟨bd.toArray⟩ _ _)).mono ?_
  rintro e w4 ⟨rfl, rfl⟩
  rw [show (92 : Int).toNat.toUInt8 = 92 from rfl]
  rw [show Lib.indexByte (⟨bd.toArray⟩ : ByteArray).data.toList 92 = Lib.indexByte bd 92 from rfl]
  rcases idx_split 92 bd with ⟨hix, hno⟩ | ⟨x, y, hxy, hno, hix⟩
  ·rw [hix]
   obtain ⟨rfl, rfl⟩ : u2 = bd ∧ a2 = false := by
    have h9 := HU2.out
    have h8 := unS_chunk (z := [0]) bd [] hno
    rw [List.append_nil, h9, unS_nil] at h8
    simp only [Option.map_some, Option.some.injEq, Prod.mk.injEq, List.append_nil] at h8
    exact h8
   have hx1 := ext_take u2 u2.length
   rw [List.take_length] at hx1
   have hx2 := ext_drop u2 u2.length
   rw [List.drop_length] at hx2
   have HW : Hid (acc.length + u2.length ≤ 100000000000) := hid (by have := HACL.out; omega)
   clear hix hno hie
   go_wp2_with fail
   refine (wrStr_calls B B acc u2 _ HB.out HW.out HSZ.out).mono ?_
   rintro e w5 ⟨rfl, hb5, hbe5⟩
   have HO5 := hid (only_belowB HO.out hbe5 HBs.out)
   have HR5 := hid (row_belowB HR.out hbe5 HRB.out)
   have HSZ5 : Hid (B ≤ w5.heap.size) := hid (Nat.le_trans HSZ.out hbe5.size)
   have HB5 := hid hb5
   clear hb5 hbe5
   go_wp2_with fail
   go_roundg 0
   case measure => have := Hk.out; omega
   exact ⟨[], acc ++ u2, [], a1, false, rfl, Nat.zero_le _, rfl, HR5.out, HO5.out, HB5.out, HSZ5.out, rfl, by rw [List.append_nil]; exact HAC.out, HAA.out⟩
  rw [hix]
  obtain ⟨b3, y3, a3, he, u3, a4, hu3, hu4⟩ : ∃ b3 y3 a3, escS [0] y = some (b3, y3, a3) ∧ ∃ u3 a4, unS [0] y3 = some (u3, a4) ∧ x ++ (b3 ++ u3) = u2 ∧ (a3 || a4) = a2 := by
   have h9 := HU2.out
   rw [hxy, unS_chunk x _ hno, unS_esc] at h9
   cases he : escS [0] y with
   | none => rw [he] at h9; cases h9
   | some q =>
    obtain ⟨b3, y3, a3⟩ := q
    rw [he] at h9
    simp only at h9
    cases hu : unS [0] y3 with
    | none => rw [hu] at h9; cases h9
    | some q =>
     obtain ⟨u3, a4⟩ := q
     rw [hu] at h9
     simp only [Option.map_some, Option.some.injEq, Prod.mk.injEq] at h9
     exact ⟨b3, y3, a3, rfl, u3, a4, hu, h9.1, h9.2⟩
  have hxl : x.length < bd.length := by rw [hxy, List.length_append, List.length_cons]; omega
  have hx1 := ext_take bd x.length
  rw [show bd.take x.length = x from by rw [hxy]; simp] at hx1
  have hx2 := ext_drop bd x.length
  rw [show bd.drop x.length = 92 :: y from by rw [hxy]; simp] at hx2
  have hyl : y.length + 1 = (92 :: y : List UInt8).length := rfl
  have HW : Hid (acc.length + x.length ≤ 100000000000) := hid (by have := HACL.out; omega)
  have HW2 : Hid ((acc ++ x).length ≤ 100000000000) := hid (by rw [List.length_append]; exact HW.out)
  have HYL : Hid (y3.length < bd.length) := hid (by have := esc_len' he; rw [hxy, List.length_append, List.length_cons]; omega)
  have HYB : Hid (y.length ≤ 100000000) := Lib.hid (by have h9 : bd.length = x.length + (y.length + 1) := by rw [hxy]; simp
                                                       omega)
  have HE := hid he
  have HU3 := hid hu3
  have HU4 := hid hu4
  have hxi : ¬ (x.length : Int) < 0 := by omega
  have hxli : (x.length : Int) ≤ (bd.length : Int) := by omega
  have hy0 : (1 : Int) ≤ ((92 :: y : List UInt8).length : Int) := by rw [← hyl]; omega
  have hie2 : (92 :: y : List UInt8).isEmpty = false := rfl
  have hx3 := ext_drop (92 :: y) 1
  rw [show (92 :: y : List UInt8).drop 1 = y from rfl] at hx3
  obtain ⟨yy, hyy⟩ : ∃ yy, (92 :: y : List UInt8) = yy := ⟨_, rfl⟩
  rw [hyy] at hx2 hx3 hy0 hie2
  clear hix hno hxy hyl he hu3 hu4 hyy HU2 HACL
  go_wp2_with fail
  refine (wrStr_calls B B acc x _ HB.out HW.out HSZ.out).mono ?_
  rintro e w5 ⟨rfl, hb5, hbe5⟩
  have HO5 := hid (only_belowB HO.out hbe5 HBs.out)
  have HR5 := hid (row_belowB HR.out hbe5 HRB.out)
  have HSZ5 : Hid (B ≤ w5.heap.size) := hid (Nat.le_trans HSZ.out hbe5.size)
  have HB5 := hid hb5
  clear hb5 hbe5
  go_wp2_with fail
  refine (escP_calls w5 HR5.out HYB.out HE.out).mono ?_
  rintro e w6 ⟨ho6, hr6, n6, rfl, hb6, hn6, hs6⟩
  have HO6 := hid (HO5.out.trans ho6)
  have HB6 := hid (HB5.out.apart ho6 (fun k hk _ e => by have := HRB.out; omega))
  have HR6 := hid hr6
  have HSZ6 : Hid (B ≤ w6.heap.size) := hid (Nat.le_trans HSZ5.out ho6.size)
  have HN6 := hid hb6
  have HS6 := hid hs6
  clear ho6 hr6 hb6 hs6
  have hn6i : (n6 : Int) ≤ 1114111 := by omega
  go_wp2_with fail
  refine (wrRune_calls B B (acc ++ x) n6 hn6 HS6.out _ HB6.out HW2.out HSZ6.out).mono ?_
  rintro e w7 ⟨⟨v7, rfl⟩, hb7, hbe7⟩
  have HO7 := hid (only_belowB HO6.out hbe7 HBs.out)
  have HR7 := hid (row_belowB HR6.out hbe7 HRB.out)
  have HSZ7 : Hid (B ≤ w7.heap.size) := hid (Nat.le_trans HSZ6.out hbe7.size)
  have HB7 := hid hb7
  clear hb7 hbe7
  go_wp2_with fail
  go_roundg y3.length
  case measure => have := Hk.out; have := HYL.out; omega
  exact ⟨y3, acc ++ x ++ letS n6, u3, a1 || a3, a4, rfl, by have := HYL.out; omega, rfl, by rw [← Bool.or_assoc]; exact HR7.out, HO7.out, HB7.out, HSZ7.out, HU3.out, by rw [← HAC.out, ← HU4.out.1, HN6.out]; simp, by rw [Bool.or_assoc, HU4.out.2]; exact HAA.out⟩
open Go.RowKit
theorem setCell_comm (w : World) (a b : Addr) (x y : Value) (h : a.block ≠ b.block) : (w.setCell a x).setCell b y = (w.setCell b y).setCell a x := by
 unfold World.setCell
 simp only [World.mk.injEq, and_true]
 apply Array.ext_getElem?
 intro i
 simp only [Array.getElem?_modify]
 by_cases h1 : a.block = i
 ·by_cases h2 : b.block = i
  ·exact absurd (h1.trans h2.symm) h
  simp [h1, h2]
 simp [h1]
theorem setCells_comm (g : Nat) (a : Addr) (x : Value) (h : a.block ≠ g) : ∀ (vs : List Value) (o : Nat) (w : World), (w.setCell a x).setCells g o vs = (w.setCells g o vs).setCell a x
 | [], _, _ => rfl
 | v :: r, o, w => by
  show ((w.setCell a x).setCell ⟨g, o, none⟩ v).setCells g (o + 1) r = _
  rw [setCell_comm w a ⟨g, o, none⟩ x v h, setCells_comm g a x h r (o + 1)]
  rfl
theorem Apart.cells {S : Nat → Prop} {g : Nat} (hg : S g) : ∀ (vs : List Value) (o : Nat) (w : World), Apart S w (w.setCells g o vs)
 | [], _, w => Apart.refl S w
 | v :: r, o, w => (Apart.set (S := S) w (a := ⟨g, o, none⟩) hg v).trans (Apart.cells hg r (o + 1) _) (fun _ _ h => h)
theorem ownsRow_puts {base size n g cap : Nat} {e : TypeId} : ∀ (vs : List Value) (o : Nat) (w : World) (xs : List Value), w.ownsRow base e size (.slice (some ⟨g, 0, none⟩) n cap) n xs → o + vs.length ≤ xs.length →
  (w.setCells g o vs).ownsRow base e size (.slice (some ⟨g, 0, none⟩) n cap) n (xs.take o ++ vs ++ xs.drop (o + vs.length))
 | [], o, w, xs, h, hl => by
  show w.ownsRow base e size _ n (xs.take o ++ [] ++ xs.drop (o + 0))
  rw [List.append_nil, Nat.add_zero, List.take_append_drop]; exact h
 | v :: r, o, w, xs, h, hl => by
  simp only [List.length_cons] at hl ⊢
  have h1 := ownsRow_puts r (o + 1) (w.setCell ⟨g, o, none⟩ v) (xs.set o v) (h.stored o v).1 (by rw [List.length_set]; omega)
  have e1 : (xs.set o v).take (o + 1) = xs.take o ++ [v] := by
   rw [List.take_succ_eq_append_getElem (by rw [List.length_set]; omega), List.take_set_of_le (Nat.le_refl _)]
   simp
  have e2 : (xs.set o v).drop (o + 1 + r.length) = xs.drop (o + (r.length + 1)) := by
   rw [List.drop_set_of_lt (by omega), show o + 1 + r.length = o + (r.length + 1) by omega]
  rw [e1, e2] at h1
  rw [show w.setCells g o (v :: r) = (w.setCell ⟨g, o, none⟩ v).setCells g (o + 1) r from rfl]
  simpa using h1
theorem JsV.put {w : World} {B : Nat} {S : Nat → Prop} {g n cap : Nat} {rs : List JR} {z r : JR} (hn : rs.length = n) (h : JsV w B S (.slice (some ⟨g, 0, none⟩) (n + 1) cap) (rs ++ [z])) (hr : JV w (fun k => S k ∧ k ≠ g) r) :
  JsV (w.setCells g (n * 8) (jcells r)) B S (.slice (some ⟨g, 0, none⟩) (n + 1) cap) (rs ++ [r]) := by
 have hl : (rs ++ [z]).length = n + 1 := by simp [hn]
 have hl2 : (rs ++ [r]).length = n + 1 := by simp [hn]
 have ha := Apart.cells (S := fun k => k = g) rfl (jcells r) (n * 8) w
 have hj : (jcells r).length = 8 := rfl
 have h0 := h.row
 rw [hl] at h0
 refine ⟨?_, fun q hq => ?_⟩
 ·rw [hl2]
  have h1 := ownsRow_puts (jcells r) (n * 8) w _ h0 (by rw [jrow_len, hl, hj]; omega)
  have e : (jrow (rs ++ [z])).take (n * 8) ++ jcells r ++ (jrow (rs ++ [z])).drop (n * 8 + (jcells r).length) = jrow (rs ++ [r]) := by
   rw [List.drop_of_length_le (by rw [jrow_len, hl, hj]; omega), List.append_nil, jrow_app, jrow_app, List.take_append_of_le_length (by rw [jrow_len, hn]; omega), List.take_of_length_le (by rw [jrow_len, hn]; omega)]
   simp [jrow]
  rw [e] at h1
  exact h1
 ·have hq2 : JV w (fun k => S k ∧ (Value.slice (some ⟨g, 0, none⟩) (n + 1) cap).ownBlock ≠ some k) q := by
   rcases List.mem_append.1 hq with hq | hq
   ·exact h.each q (List.mem_append.2 (.inl hq))
   ·rw [List.mem_singleton.1 hq]
    exact hr.mono (fun k _ hk => ⟨hk.1, fun e => hk.2 (by simp [Value.ownBlock] at e; exact e.symm)⟩)
  exact hq2.apart ha (fun k hk _ e => hk.2 (by rw [e]; rfl))
theorem oper_store8At {w : World} {o : Oper} {a : Act} {Q : Exit → Act → World → Prop} {K : Act → World → Prop} (x y : Operand) (ho : o.op = .store 30 x y) (hd : o.dst = none)
  {g off : Nat} (x0 x1 x2 x3 x4 x5 x6 x7 : Value) (hc : ∀ j, j < 8 → (w.cell? ⟨g, off + j, none⟩).isSome = true) (hf : ∀ j, j < 8 → w.frozen? ⟨g, off + j, none⟩ = false)
  (hx : a.eval x = .pointer (some ⟨g, off, none⟩)) (hy : a.eval y = .agg #[x0, x1, x2, x3, x4, x5, x6, x7]) (h1 : ones8 x0 x1 x2 x3 x4 x5 x6 x7 = true)
  (hK : K a (w.setCells g off [x0, x1, x2, x3, x4, x5, x6, x7])) : Oper.wp Tryz.prog o a w K Q := by
 have hone : ∀ v ∈ [x0, x1, x2, x3, x4, x5, x6, x7], v.oneCell' = true := by
  unfold ones8 at h1
  simp only [Bool.and_eq_true] at h1
  intro v hv
  simp only [List.mem_cons, List.not_mem_nil, or_false] at hv
  rcases hv with rfl | rfl | rfl | rfl | rfl | rfl | rfl | rfl <;> simp [h1]
 have h := run_storeCells_cells (P := Tryz.prog) g off [x0, x1, x2, x3, x4, x5, x6, x7] 0 w hc hf hone
 have hrun : (storeVar 30 ⟨g, off, none⟩ (.agg #[x0, x1, x2, x3, x4, x5, x6, x7])).run Tryz.prog w = .ok () (w.setCells g off [x0, x1, x2, x3, x4, x5, x6, x7]) := by
  cases hq : Tryz.prog.info? 30 with
  | none => have := Tryz.info8j; rw [hq] at this; cases this
  | some i =>
   have hs : i.size = 8 := by have := Tryz.info8j; rw [hq] at this; simpa using this
   have h2 : (storeCells ⟨g, off, none⟩ [x0, x1, x2, x3, x4, x5, x6, x7]).run Tryz.prog w = .ok () (w.setCells g off [x0, x1, x2, x3, x4, x5, x6, x7]) := h
   simp [storeVar, sizeOf, typeInfo, hq, Value.cells, hs, h2]
 unfold Oper.wp
 have hs : (Instr.sureAddr (.pointer (some ⟨g, off, none⟩))).run Tryz.prog w = .ok ⟨g, off, none⟩ w := rfl
 simp [execOp, ho, hx, hy, Instr.storeAt, hs, hrun, Oper.upon, Act.put, hd]
 exact hK
variable {P : Program} {ops : Array Oper} {Q : Exit → Act → World → Prop} {md : Region.Mode} {S : World → Prop}
open Go.RowKit
def ValPTo (w : World) (R : Nat) (v : J) (r : List UInt8) (f2 : Fl) (e : Ending) (w' : World) : Prop :=
 OnlyR R w w' ∧ PdAt w' R r f2.alone f2.twice f2.great ∧ ∃ lv nv, e = .returned (jval (v, lv, nv)) ∧ JV w' (fun k => w.heap.size ≤ k) (v, lv, nv)
def ValPAll (k : Nat) : Prop := ∀ (w : World) (R : Nat) (s : List UInt8) (d : Nat) (f : Fl) (v : J) (r : List UInt8) (f2 : Fl), PdAt w R s f.alone f.twice f.great → s.length ≤ 100000000 → valS [0] k d s f = some (v, r, f2) →
 Calls Tryz.prog 48 #[.pointer (some ⟨R, 0, none⟩)] w (ValPTo w R v r f2)
def InPTo (w : World) (R g5 : Nat) (v : J) (r : List UInt8) (f2 : Fl) (e : Ending) (w' : World) : Prop :=
 e = .returned (.tuple #[]) ∧ Apart (fun k => k = R ∨ k = g5) w w' ∧ PdAt w' R r f2.alone f2.twice f2.great ∧ ∃ lv nv, RowAt w' g5 (jcells (v, lv, nv)) ∧ JV w' (fun k => w.heap.size ≤ k) (v, lv, nv)
def loopS (z : List UInt8) (n d : Nat) (obj first : Bool) (ls : List J) (ns : List (List UInt8)) (s : List UInt8) (f : Fl) : Option (J × List UInt8 × Fl) := match skipS s with
 | [] => none
 | c :: t => if c = endB obj then some (listJ obj ls ns, t, f) else if first then itemS z n d obj ls ns (c :: t) f else if c = 44 then itemS z n d obj ls ns t f else none
theorem inS_loop (z : List UInt8) (n d : Nat) (obj : Bool) (s : List UInt8) (f : Fl) : inS z (n + 1) d obj s f = loopS z n d obj true [] [] s f := by
 rw [inS]; unfold loopS
 cases skipS s with
 | nil => rfl
 | cons c t => simp
theorem item_loop (z : List UInt8) (n d : Nat) (obj : Bool) (ls : List J) (ns : List (List UInt8)) (s : List UInt8) (f : Fl) : itemS z (n + 1) d obj ls ns s f = match memS z obj ns s f with
  | none => none
  | some (ns2, s2, f2) => match valS z n d s2 f2 with
   | none => none
   | some (v, s3, f3) => loopS z n d obj false (ls ++ [v]) ns2 s3 f3 := by
 rw [itemS_succ]
 cases memS z obj ns s f with
 | none => rfl
 | some x =>
  obtain ⟨ns2, s2, f2⟩ := x
  show moreS z n d obj ls ns2 (valS z n d s2 f2) = _
  simp only
  cases valS z n d s2 f2 with
  | none => rfl
  | some y =>
   obtain ⟨v, s3, f3⟩ := y
   simp only [moreS, loopS]
   cases skipS s3 with
   | nil => rfl
   | cons c t => simp
structure PinI (w wr : World) (R g5 g : Nat) (L : Nat) (obj : Bool) (s : List UInt8) (f : Fl) (rs : List JR) (ns : List (List UInt8)) (lv nv : Value) : Prop where
 rd : PdAt wr R s f.alone f.twice f.great
 v : RowAt wr g5 [.int .i64 (kindI obj), .bool false, .bool false, .string ⟨#[]⟩, .int .i64 0, .string ⟨#[]⟩, lv, nv]
 mp : CntV wr g ns
 js : JsV wr (g + 1) (SepS g nv) lv rs
 nm : NamV wr (g + 1) nv ns
 on : Apart (fun k => k = R ∨ k = g5) w wr
 lr : rs.length + s.length ≤ L
 ln : ns.length + s.length ≤ L
theorem PinI.only {w wr w' : World} {R g5 g L : Nat} {obj : Bool} {s s' : List UInt8} {f f' : Fl} {rs : List JR} {ns : List (List UInt8)} {lv nv : Value} (h : PinI w wr R g5 g L obj s f rs ns lv nv) (hg : R < g ∧ g5 < g ∧ R ≠ g5) (ho : OnlyR R wr w') (hr : PdAt w' R s' f'.alone f'.twice f'.great) (hl : s'.length ≤ s.length) :
  PinI w w' R g5 g L obj s' f' rs ns lv nv :=
 ⟨hr, h.v.apart ho (fun e => hg.2.2 e.symm), h.mp.apart ho (by omega), h.js.apart ho (fun k hk e => by have := h.js.lt hk; omega) (fun k hk _ e => by have := hk.1; omega), h.nm.apart ho (fun k hk _ e => by omega), h.on.trans ho (fun i _ e => .inl e), by have := h.lr; omega, by have := h.ln; omega⟩
theorem PinI.below {w wr w' : World} {R g5 g L : Nat} {obj : Bool} {s : List UInt8} {f : Fl} {rs : List JR} {ns : List (List UInt8)} {lv nv : Value} (h : PinI w wr R g5 g L obj s f rs ns lv nv) (hb : Below wr.heap.size wr w') : PinI w w' R g5 g L obj s f rs ns lv nv :=
 ⟨h.rd.below hb, h.v.below hb, h.mp.below hb, h.js.below hb, h.nm.below hb, h.on.trans (Apart.ofBelow (S := fun _ => False) hb) (fun _ _ h => h.elim), h.lr, h.ln⟩
theorem PinI.name {w wr w1 w8 : World} {R g5 g L : Nat} {obj : Bool} {s : List UInt8} {f : Fl} {rs : List JR} {ns : List (List UInt8)} {lv nv nv2 : Value} (h : PinI w wr R g5 g L obj s f rs ns lv nv) (hg : R < g ∧ g5 < g ∧ R ≠ g5) (hw : w.heap.size = g) (u : List UInt8) (o : Obj)
  (hmp : CntV w1 g (ns ++ [u])) (hg1 : wr.grownBy w1 (some g))
  (hnv : NamV w8 (g + 1) nv2 (ns ++ [u])) (hgr : (w1.alloc o).grownBy w8 nv.ownBlock) (hfr : ∀ k, nv2.ownBlock = some k → nv.ownBlock = some k ∨ w1.heap.size ≤ k) (hln : ns.length + 1 + s.length ≤ L) :
  PinI w (w8.setCell ⟨g5, 7, none⟩ nv2) R g5 g L obj s f rs (ns ++ [u]) lv nv2 := by
 have ha1 : Apart (fun k => k = g) wr w1 := Apart.ofGrown hg1 (fun k hk => by injection hk with e; exact e.symm)
 have ha : Apart (fun k => nv.ownBlock = some k) w1 w8 := (Apart.ofBelow (S := fun k => nv.ownBlock = some k) ((Below.refl _ _).alloc (Nat.le_refl _) o)).trans (Apart.ofGrown hgr (fun k hk => hk)) (fun _ _ h => h)
 have hs : Apart (fun k => k = g5) w8 (w8.setCell ⟨g5, 7, none⟩ nv2) := Apart.set (S := fun k => k = g5) w8 rfl _
 have hlt : ∀ k, nv.ownBlock = some k → g + 1 ≤ k := fun k hk => (World.ownsRow.lt h.nm k hk).1
 have hsz := ha1.size
 have hj : JsV w8 (g + 1) (SepS g nv2) lv rs := by
  have h1 : JsV wr (g + 1) (fun k => SepS g nv k ∧ k < wr.heap.size) lv rs := h.js.mono (fun k hk hs => ⟨hs, hk⟩)
  have h2 := h1.apart ha1 (fun k hk e => by have := h1.lt hk; omega) (fun k hk _ e => by have := hk.1.1; omega)
  have hnm1 : NamV w1 (g + 1) nv ns := h.nm.apart ha1 (fun k hk _ e => by omega)
  refine (h2.apart ha (fun k hk e => ownsRow_ne h2.row hnm1 (by decide) k hk e) (fun k hk _ e => hk.1.2 e)).mono (fun k _ hk => ⟨hk.1.1, fun e => ?_⟩)
  rcases hfr k e with h9 | h9
  ·exact hk.1.2 h9
  have := hk.2; omega
 refine ⟨?_, ?_, ?_, hj.apart hs (fun k hk e => by have := hj.lt hk; omega) (fun k hk _ e => by have := hk.1; omega), hnv.apart hs (fun k hk _ e => by omega), ((h.on.trans ha1 (fun i hi e => by omega)).trans ha (fun i hi e => by have := hlt i e; omega)).trans hs (fun i hi e => .inr e), h.lr, by rw [List.length_append, List.length_singleton]; exact hln⟩
 ·exact ((h.rd.apart ha1 (by omega)).apart ha (fun e => by have := hlt _ e; omega)).far (p := ⟨g5, 7, none⟩) (by show g5 ≠ R; omega) _
 ·exact ((h.v.apart ha1 (by omega)).apart ha (fun e => by have := hlt _ e; omega)).set 7 _ (by simp)
 ·exact (hmp.apart ha (fun e => by have := hlt _ e; omega)).apart hs (by omega)
theorem PinI.value {w wr w8 : World} {R g5 g L : Nat} {obj : Bool} {s : List UInt8} {f : Fl} {rs : List JR} {ns : List (List UInt8)} {lv nv : Value} {p8 cap : Nat} {z : JR} (h : PinI w wr R g5 g L obj s f rs ns lv nv) (hg : R < g ∧ g5 < g ∧ R ≠ g5) (hw : w.heap.size = g) (r : JR)
  (hjv : JsV w8 (g + 1) (SepS g nv) (.slice (some ⟨p8, 0, none⟩) (rs.length + 1) cap) (rs ++ [z])) (hgr : wr.grownBy w8 lv.ownBlock) (hr : JV w8 (fun k => SepS g nv k ∧ k ≠ p8) r) (hln : rs.length + 1 + s.length ≤ L) :
  PinI w ((w8.setCells p8 (rs.length * 8) (jcells r)).setCell ⟨g5, 6, none⟩ (.slice (some ⟨p8, 0, none⟩) (rs.length + 1) cap)) R g5 g L obj s f (rs ++ [r]) ns (.slice (some ⟨p8, 0, none⟩) (rs.length + 1) cap) nv := by
 have ha : Apart (fun k => lv.ownBlock = some k) wr w8 := Apart.ofGrown hgr (fun k hk => hk)
 have hc : Apart (fun k => k = p8) w8 (w8.setCells p8 (rs.length * 8) (jcells r)) := Apart.cells (S := fun k => k = p8) rfl _ _ _
 have hp8 : g + 1 ≤ p8 := (hjv.lt rfl).1
 have hput := hjv.put rfl hr
 obtain ⟨w9, hw9⟩ : ∃ w9, w8.setCells p8 (rs.length * 8) (jcells r) = w9 := ⟨_, rfl⟩
 rw [hw9] at hc hput ⊢
 have hs : Apart (fun k => k = g5) w9 (w9.setCell ⟨g5, 6, none⟩ (.slice (some ⟨p8, 0, none⟩) (rs.length + 1) cap)) := Apart.set (S := fun k => k = g5) w9 rfl _
 have hlt : ∀ k, lv.ownBlock = some k → g + 1 ≤ k := fun k hk => (h.js.lt hk).1
 have hn8 : NamV w8 (g + 1) nv ns := ownsRow_apart h.nm ha (fun k hk e => ownsRow_ne h.nm h.js.row (by decide) k hk e)
 have hn : NamV w9 (g + 1) nv ns := ownsRow_apart hn8 hc (fun k hk e => ownsRow_ne hn8 hjv.row (by decide) k hk (by rw [e]; rfl))
 refine ⟨?_, ?_, ?_, hput.apart hs (fun k hk e => by have := hput.lt hk; omega) (fun k hk _ e => by have := hk.1; omega), hn.apart hs (fun k hk _ e => by omega), ((h.on.trans ha (fun i hi e => by have := hlt i e; omega)).trans hc (fun i hi e => by omega)).trans hs (fun i hi e => .inr e), by rw [List.length_append, List.length_singleton]; exact hln, h.ln⟩
 ·exact ((h.rd.apart ha (fun e => by have := hlt _ e; omega)).apart hc (by omega)).far (p := ⟨g5, 6, none⟩) (by show g5 ≠ R; omega) _
 ·exact ((h.v.apart ha (fun e => by have := hlt _ e; omega)).apart hc (by omega)).set 6 _ (by simp)
 ·exact ((h.mp.apart ha (fun e => by have := hlt _ e; omega)).apart hc (by omega)).apart hs (by omega)
theorem PinI.done {w wr : World} {R g5 g L : Nat} {obj : Bool} {s : List UInt8} {f : Fl} {rs : List JR} {ns : List (List UInt8)} {lv nv : Value} (h : PinI w wr R g5 g L obj s f rs ns lv nv) (hw : w.heap.size = g) : JV wr (fun k => w.heap.size ≤ k) (listJ obj (rs.map (·.1)) ns, lv, nv) :=
 (JV.ofRows (kindI obj) (fun k hk => hk.1) h.js h.nm).mono (fun k _ hk => by omega)
theorem mem_list (z : List UInt8) (ns : List (List UInt8)) (s : List UInt8) (f : Fl) : memS z false ns s f = some (ns, s, f) := rfl
theorem item_some {z : List UInt8} {n d : Nat} {obj : Bool} {ls : List J} {ns : List (List UInt8)} {s : List UInt8} {f : Fl} {y : J × List UInt8 × Fl} (h : itemS z n d obj ls ns s f = some y) :
  ∃ n1 ns2 s2 f2 v s3 f3, n = n1 + 1 ∧ memS z obj ns s f = some (ns2, s2, f2) ∧ valS z n1 d s2 f2 = some (v, s3, f3) ∧ loopS z n1 d obj false (ls ++ [v]) ns2 s3 f3 = some y := by
 cases n with
 | zero => simp [itemS] at h
 | succ n1 =>
  rw [item_loop] at h
  cases h1 : memS z obj ns s f with
  | none => rw [h1] at h; cases h
  | some x =>
   obtain ⟨ns2, s2, f2⟩ := x
   rw [h1] at h
   simp only at h
   cases h2 : valS z n1 d s2 f2 with
   | none => rw [h2] at h; cases h
   | some x =>
    obtain ⟨v, s3, f3⟩ := x
    rw [h2] at h
    exact ⟨n1, ns2, s2, f2, v, s3, f3, rfl, rfl, h2, h⟩
theorem mem_some {z : List UInt8} {ns : List (List UInt8)} {s : List UInt8} {f : Fl} {ns2 : List (List UInt8)} {s2 : List UInt8} {f2 : Fl} (h : memS z true ns s f = some (ns2, s2, f2)) :
  ∃ t u r a, skipS s = 34 :: t ∧ qtS z t = some (u, r, a) ∧ skipS r = 58 :: s2 ∧ ns2 = ns ++ [u] ∧ f2 = { f with alone := f.alone || a, twice := f.twice || ns.contains u } := by
 rw [mem_obj] at h
 unfold qS at h
 cases h1 : skipS s with
 | nil => rw [h1] at h; cases h
 | cons c t =>
  rw [h1] at h
  simp only at h
  by_cases hc : c = 34
  ·subst hc
   rw [if_pos rfl] at h
   cases h2 : qtS z t with
   | none => rw [h2] at h; cases h
   | some x =>
    obtain ⟨u, r, a⟩ := x
    rw [h2] at h
    simp only at h
    cases h3 : skipS r with
    | nil => rw [h3] at h; cases h
    | cons c2 r2 =>
     rw [h3] at h
     simp only at h
     by_cases h58 : c2 = 58
     ·rw [if_pos h58] at h
      simp only [Option.some.injEq, Prod.mk.injEq] at h
      obtain ⟨rfl, rfl, rfl⟩ := h
      exact ⟨t, u, r, a, rfl, h2, by rw [h58] at h3; exact h3, rfl, rfl⟩
     rw [if_neg h58] at h; cases h
  rw [if_neg hc] at h; cases h
theorem loop_some {z : List UInt8} {n d : Nat} {obj first : Bool} {ls : List J} {ns : List (List UInt8)} {s : List UInt8} {f : Fl} {y : J × List UInt8 × Fl} (h : loopS z n d obj first ls ns s f = some y) :
  ∃ c t, skipS s = c :: t ∧ ((c = endB obj ∧ y = (listJ obj ls ns, t, f)) ∨ (c ≠ endB obj ∧ itemS z n d obj ls ns (if [44].contains c then t else c :: t) f = some y)) := by
 unfold loopS at h
 cases h1 : skipS s with
 | nil => rw [h1] at h; cases h
 | cons c t =>
  rw [h1] at h
  simp only at h
  refine ⟨c, t, rfl, ?_⟩
  by_cases hc : c = endB obj
  ·rw [if_pos hc] at h; exact .inl ⟨hc, (Option.some.inj h).symm⟩
  rw [if_neg hc] at h
  refine .inr ⟨hc, ?_⟩
  have hct : [(44 : UInt8)].contains c = (c == 44) := by rw [List.contains_cons]; simp
  rw [hct]
  cases first with
  | false =>
   rw [if_neg (by decide)] at h
   by_cases h4 : c = 44
   ·rw [if_pos h4] at h; rw [if_pos (by rw [h4]; rfl)]; exact h
   rw [if_neg h4] at h; cases h
  | true =>
   rw [if_pos rfl] at h
   by_cases h4 : c = 44
   ·subst h4
    obtain ⟨n1, ns2, s2, f2, v, s3, f3, _, h2, h3, _⟩ := item_some h
    exfalso
    cases obj with
    | true =>
     obtain ⟨t9, _, _, _, h5, _⟩ := mem_some h2
     have : skipS (44 :: t) = 44 :: t := rfl
     rw [this] at h5
     injection h5 with h6
     exact absurd h6 (by decide)
    | false =>
     rw [mem_list] at h2
     simp only [Option.some.injEq, Prod.mk.injEq] at h2
     obtain ⟨-, rfl, -⟩ := h2
     cases n1 with
     | zero => simp [valS] at h3
     | succ n2 =>
      have : skipS (44 :: t) = 44 :: t := rfl
      rw [valS, this] at h3
      simp only at h3
      rw [if_neg (by decide), if_neg (by decide), if_neg (by decide), if_neg (by decide)] at h3
      rw [if_neg (by simp [wNull]), if_neg (by simp [wTrue]), if_neg (by simp [wFalse])] at h3
      cases h3
   rw [if_neg (by simpa using h4)]; exact h
end Go.Proofs.YtfclfaidmipjpaaGreatDoor
