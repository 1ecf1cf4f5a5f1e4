/- Texts of this claim, joined: Lbn. -/
import Derived.Test.YtfclfaidmipjpaaGreatDoorBn00
namespace Go.Proofs.YtfclfaidmipjpaaGreatDoor
set_option maxRecDepth 100000
set_option maxHeartbeats 20000000
open Go.RowKit
structure BytF (w : World) (g n : Nat) (f : Nat → UInt8) : Prop where
 lt : g < w.heap.size
 cell : ∀ i, i < n → w.cell? ⟨g, i, none⟩ = some (.int .u8 ((f i).toNat : Int))
 free : ∀ i, i < n → w.frozen? ⟨g, i, none⟩ = false
theorem BytF.put {w : World} {g n : Nat} {f f' : Nat → UInt8} (h : BytF w g n f) (i : Nat) (c : UInt8) (hi : i < n) (hf : ∀ j, j < n → f' j = if j = i then c else f j) : BytF (w.setCell ⟨g, i, none⟩ (.int .u8 (c.toNat : Int))) g n f' := by
 refine ⟨by simpa using h.lt, fun j hj => ?_, fun j hj => by rw [World.frozen?_setCell]; exact h.free j hj⟩
 rw [hf j hj]
 by_cases e : j = i
 ·subst e
  rw [if_pos rfl, World.cell?_setCell_same _ _ _ (h.cell j hj)]
 ·rw [if_neg e, World.cell?_setCell_other _ _ _ _ (fun e2 => by injection e2 with _ e3; exact e e3.symm)]
  exact h.cell j hj
theorem BytF.byts {w : World} {g n : Nat} {f : Nat → UInt8} (h : BytF w g n f) (a cap : Nat) (l : List UInt8) (hl : a + l.length ≤ n) (hc : l.length ≤ cap) (hm : l.length ≤ maxLen) (hf : ∀ j, j < l.length → l.getD j 0 = f (a + j)) : BytS w (.slice (some ⟨g, a, none⟩) l.length cap) l :=
 .inr ⟨g, a, cap, rfl, hc, hm, h.lt, fun j hj => by rw [h.cell (a + j) (by omega), hf j hj]⟩
theorem wpList_make_F {w : World} {ops : Array Oper} {rest : List Oper} {o : Oper} {a : Act} {Q : Exit → Act → World → Prop}
  (hg : o.guard = none) (l c : Operand) (hop : o.op = Op.makeSlice 22 l c)
  (L C : Int) (n : Nat) (hl : a.eval l = .int .i64 L) (hc : a.eval c = .int .i64 C) (hL : L = (n : Int)) (hC : C = (n : Int)) (b2 : n ≤ 1000000000000) (hp : 0 < n)
  (hK : ∀ w', BytF w' w.heap.size n (fun _ => 0) → Below w.heap.size w w' → wpList Tryz.prog ops Q rest (a.put o.dst (.slice (some ⟨w.heap.size, 0, none⟩) n n)) w') :
  wpList Tryz.prog ops Q (o :: rest) a w := by
 obtain ⟨i0, hi, hz0, hz1, hz2⟩ := info_parts Tryz.info5
 refine wpList_make_full w hg l c 22 hop w.heap.size 5 i0 (.int .u8 0) 1 Tryz.underlying22 hi hz0 hz1 .i64 .i64 L C n hl hc hL hC (by rw [hz2]; omega) (by unfold maxLen; omega) (Nat.le_refl _) ?_
 intro w' h1 h2
 refine hK w' ?_ ((Below.refl _ _).grown h2 (Nat.le_refl _) (fun k hk => by cases hk))
 have h3 : BytV w' w.heap.size (.slice (some ⟨w.heap.size, 0, none⟩) n n) (List.replicate n 0) := by
  unfold BytV
  rw [show (madeCells (Value.int IntKind.u8 0).cells (n * 1)).toList = u8s (List.replicate n 0) from ?_] at h1
  ·rw [List.length_replicate]; exact h1
  ·show (madeCells #[Value.int .u8 0] (n * 1)).toList = _
   rw [toList_madeCells_one, Nat.mul_one]; simp [u8s]
 have h4 := waitV_own h3 (Nat.le_refl _)
 rcases h4 with ⟨h5, _⟩ | ⟨g, off, cap, h5, h6, h7, h8, h9, h10, h11, h12⟩
 ·cases h5
 ·simp only [List.length_replicate] at h5 h10
  injection h5 with h5 _ h5c
  injection h5 with h5
  injection h5 with h5a h5b
  subst h5a h5b h5c
  refine ⟨h7, fun i hi => ?_, fun i hi => ?_⟩
  ·have := h10 i hi
   rw [Nat.zero_add] at this
   rw [this]
   simp [List.getD_eq_getElem?_getD, hi]
  ·have := h12 i hi
   rw [Nat.zero_add] at this
   exact this
theorem JV.one1 {w : World} {S : Nat → Prop} {r : JR} {g : Nat} (h : JV w S r) (hg : g < w.heap.size) (hS : S g) (hr : RowAt w g (jcells r)) : JV w S (.mk 4 false Dec.zero [] [r.1] [], .slice (some ⟨g, 0, none⟩) 1 1, .slice none 0 0) := by
 refine .mk _ (fun _ => r.2) (NamS.nil _ _) ⟨_, 1, rfl, Nat.le_refl _, by show 1 ≤ maxLen; decide, fun _ => ⟨g, 0, rfl, hS, hg, fun i j hi c hc => ?_⟩⟩ (fun i j hi => ?_)
 ·match i with
  | 0 =>
   simp only [J.l] at hi
   cases hi
   obtain ⟨v, hv⟩ : ∃ v, (jcells r)[c]? = some v := ⟨_, List.getElem?_eq_getElem (by show c < 8; exact hc)⟩
   rw [show (0 + 0 * 8 + c) = c by omega]
   exact (hr.cell c v hv).trans hv.symm
  | i + 1 => simp [J.l] at hi
 ·match i with
  | 0 => simp only [J.l] at hi; cases hi; exact h
  | i + 1 => simp [J.l] at hi
theorem wpList_buildJ {w : World} {ops : Array Oper} {rest : List Oper} {o : Oper} {a : Act} {Q : Exit → Act → World → Prop} (hgd : o.guard = none) (x : Operand) (ho : o.op = .buildSlice 27 1 #[(0, x)]) (r : JR) (hx : a.eval x = jval r)
  (hK : ∀ w', Bx w w' r → wpList Tryz.prog ops Q rest (a.put o.dst (.slice (some ⟨w.heap.size, 0, none⟩) 1 1)) w') : wpList Tryz.prog ops Q (o :: rest) a w :=
 wpList_plain hgd fun _ hK' => oper_buildJ x ho r hx (fun w' hb => hK' _ _ (hK w' hb))
def dF (i j : Nat) : UInt8 := if j < i then 91 else if 129 < j + i then 93 else 0
theorem dF_put (i j : Nat) (hi : i < 65) : dF (i + 1) j = if j = 129 - i then 93 else (if j = i then 91 else dF i j) := by
 unfold dF
 by_cases h1 : j = 129 - i
 ·rw [if_pos h1, if_neg (by omega), if_pos (by omega)]
 ·rw [if_neg h1]
  by_cases h2 : j = i
  ·rw [if_pos h2, if_pos (by omega)]
  ·rw [if_neg h2]
   by_cases h3 : j < i
   ·rw [if_pos h3, if_pos (by omega)]
   ·rw [if_neg h3, if_neg (by omega)]
    by_cases h4 : 129 < j + i
    ·rw [if_pos h4, if_pos (by omega)]
    ·rw [if_neg h4, if_neg (by omega)]
def lF (i j : Nat) : UInt8 := if j < i then 97 else 0
theorem lF_put (i j : Nat) : lF (i + 1) j = if j = i then 97 else lF i j := by
 unfold lF
 by_cases h : j = i
 ·rw [if_pos h, if_pos (by omega)]
 ·rw [if_neg h]
  by_cases h2 : j < i
  ·rw [if_pos h2, if_pos (by omega)]
  ·rw [if_neg h2, if_neg (by omega)]
def qF (j : Nat) : UInt8 := if j = 0 then 34 else if j = 1048575 then 34 else 97
theorem qF_put (j : Nat) (hj : j < 1048577) : qF j = if j = 1048575 then 34 else (if j = 0 then 34 else lF 1048577 j) := by
 unfold qF lF
 by_cases h : j = 0
 ·rw [if_pos h, if_neg (by omega), if_pos h]
 ·rw [if_neg h]
  by_cases h2 : j = 1048575
  ·rw [if_pos h2, if_pos h2]
  ·rw [if_neg h2, if_neg h2, if_neg h, if_pos hj]
theorem long_at (n : Nat) (t : List UInt8) (j : Nat) (hj : j < n + 2) : (34 :: (aN n ++ 34 :: t)).getD j 0 = if j = 0 then 34 else if j = n + 1 then 34 else 97 := by
 cases j with
 | zero => rfl
 | succ j =>
  rw [if_neg (by omega)]
  simp only [List.getD_cons_succ]
  by_cases h : j = n
  ·subst h
   rw [if_pos rfl]
   simp [List.getD_eq_getElem?_getD, aN]
  ·rw [if_neg (by omega)]
   simp [List.getD_eq_getElem?_getD, aN, List.getElem?_append_left (show j < (List.replicate n (97 : UInt8)).length by simp; omega), show j < n by omega]
theorem long_end (n j : Nat) (h : j = n + 2) : (34 :: (aN n ++ [34, 97])).getD j 0 = 97 := by
 subst h
 simp [List.getD_eq_getElem?_getD, aN]
theorem qF_end : qF (0 + 1048576) = 97 := rfl
theorem exec_conv9 {w : World} {a : Act} {o : Oper} (x : Operand) (ho : o.op = .convert 22 9 x) {v : Value} {l : List UInt8} (h : BytS w v l) (hx : a.eval x = v) : (execOp a.eval o).run Tryz.prog w = .ok (.value (.string ⟨l.toArray⟩)) w := by
 simp [execOp, ho, hx, h.string]
theorem sz63 : szJ (nest 63) ≤ 20000000 := by decide +kernel
theorem sz64 : szJ (nest 64) ≤ 20000000 := by decide +kernel
theorem sz_a (n : Nat) (h : n ≤ 1048577) : szJ (txtJ n) ≤ 20000000 := by
 simp [szJ, txtJ, aN_len, szN, szL, Dec.zero]; omega
theorem jbounds_calls (w : World) (he : EnvJ w) : Calls Tryz.prog 7 #[] w fun e w' => e = .returned (.bool true) ∧ Below w.heap.size w w' := by
 have He := Lib.hid he
 clear he
 go_enter Tryz.func7, Tryz.ntmps7
 go_wp2_with (at_make; go_must (refine wpList_make_F rfl _ _ rfl _ _ 130 rfl rfl rfl rfl (by omega) (by omega) ?_))
 intro w1 hF1 hb1
 obtain ⟨g1, hg1⟩ : ∃ g, w.heap.size = g := ⟨_, rfl⟩
 rw [hg1] at hF1 ⊢
 have HG1 := Lib.hid hg1
 have HF1 := Lib.hid hF1
 have HB1 := Lib.hid hb1
 clear hF1 hb1 hg1
 go_wp2_with fail
 go_loopg [2] 65 (fun kk s2 wr => ∃ i : Nat, kk = 65 - i ∧ i ≤ 65 ∧ s2 = .int .i64 (i : Int) ∧ BytF wr g1 130 (dF i) ∧ Below w.heap.size w wr)
 case atStart => exact ⟨0, rfl, by omega, rfl, ⟨HF1.out.lt, fun i hi => by rw [HF1.out.cell i hi]; unfold dF; rw [if_neg (by omega), if_neg (by omega)], HF1.out.free⟩, HB1.out⟩
 case round =>
  obtain ⟨i, hki, hi, rfl, hF, hb⟩ := hrel
  have Hki := Lib.hid hki
  have HF := Lib.hid hF
  have HB := Lib.hid hb
  clear hki hF hb HF1 HB1
  by_cases hlt : i < 65
  ·
   have hlti : (i : Int) < 65 := by omega
   have hij : (i : Int) < 130 := by omega
   have c1 := HF.out.cell i (by omega)
   have z1 := HF.out.free i (by omega)
   have c2 := HF.out.cell (129 - i) (by omega)
   have z2 := HF.out.free (129 - i) (by omega)
   have hwr : IntKind.i64.wrap (129 - (i : Int)) = ((129 - i : Nat) : Int) := by rw [IntWalk.i64_in _ (by omega)]; omega
   go_wp2_with fail
   have h1 := (HF.out.put (f' := fun j => if j = i then 91 else dF i j) i 91 (by omega) (fun j _ => rfl)).put (f' := dF (i + 1)) (129 - i) 93 (by omega) (fun j _ => dF_put i j (by omega))
   have HN := Lib.hid h1
   have HBN : Hid (Below w.heap.size w _) := Lib.hid (((HB.out.setCell (p := ⟨g1, i, none⟩) (by show w.heap.size ≤ g1; rw [HG1.out]; omega) (.int .u8 91))).setCell (p := ⟨g1, 129 - i, none⟩) (by show w.heap.size ≤ g1; rw [HG1.out]; omega) (.int .u8 93))
   go_roundg (65 - (i + 1))
   case measure => have := Hki.out; omega
   case rel => exact ⟨i + 1, rfl, by omega, by go_num, HN.out, HBN.out⟩
  ·
   obtain rfl : i = 65 := by omega
   have hni : ¬ ((65 : Nat) : Int) < 65 := by omega
   have hq : ∀ cap, 128 ≤ cap → BytS wr (.slice (some ⟨g1, 1, none⟩) 128 cap) (deepB 64) := fun cap hc => HF.out.byts 1 cap (deepB 64) (by decide) (by simpa [deepB] using hc) (by decide) (by decide)
   have hr : BytS wr (.slice (some ⟨g1, 0, none⟩) 130 130) (deepB 65) := HF.out.byts 0 130 (deepB 65) (by decide) (by decide) (by decide) (by decide)
   have HQ := Lib.hid hq
   have HR := Lib.hid hr
   clear hq hr
   go_wp2_with fail
   have HT := Lib.hid (He.out.below HB.out (Nat.le_refl _))
   refine (parseP_calls wr _ (deepB 64) (HQ.out _ (by omega)) HT.out.utf).mono ?_
   rintro e w2 ⟨r2, rfl, hr2, hj2, hb2⟩
   rw [par64] at hr2 ⊢
   have HR2 := Lib.hid hr2
   have HJ2 := Lib.hid hj2
   have HSL2 := Lib.hid hj2.slJ
   have HB2 := Lib.hid hb2
   clear hr2 hj2 hb2
   go_upto_region 8 with (first | (refine wpList_allocJ rfl rfl ?_; intro wa2 hBx2) | (refine wpList_storeJ rfl _ _ rfl rfl hBx2.row rfl r2 HSL2.out rfl rfl ?_; intro wS2 hSx2))
   have HV2 := Lib.hid hSx2.row
   have HBS2 : Hid (Below w2.heap.size w2 wS2) := Lib.hid (hSx2.below hBx2.be (Nat.le_refl _) hBx2.be.size)
   have HJ3 := Lib.hid (HJ2.out.bel HBS2.out)
   have HB3 : Hid (Below wr.heap.size wr wS2) := Lib.hid (HB2.out.trans (HBS2.out.mono HB2.out.size))
   obtain ⟨g3, hg3⟩ : ∃ g, w2.heap.size = g := ⟨_, rfl⟩
   rw [hg3] at HV2 ⊢
   clear hBx2 hSx2 hg3 HBS2 HJ2
   go_wp2_with fail
   as_aux_lemma =>
    refine (parseP_calls wS2 _ (deepB 65) (HR.out.below HB3.out) (HT.out.below HB3.out (Nat.le_refl _)).utf).mono ?_
    rintro e w5 ⟨r5, rfl, hr5, hj5, hb5⟩
    rw [par65] at hr5 ⊢
    have HSL5 := Lib.hid hj5.slJ
    have HB5 := Lib.hid hb5
    clear hr5 hj5 hb5
    go_upto_region 9 with (first | (refine wpList_allocJ rfl rfl ?_; intro wa5 hBx5) | (refine wpList_storeJ rfl _ _ rfl rfl hBx5.row rfl r5 HSL5.out rfl rfl ?_; intro wS5 hSx5))
    have HBS5 : Hid (Below wS2.heap.size wS2 wS5) := Lib.hid (HB5.out.trans ((hSx5.below hBx5.be (Nat.le_refl _) hBx5.be.size).mono HB5.out.size))
    have HV6 := Lib.hid (HV2.out.below HBS5.out)
    have HJ6 := Lib.hid (HJ3.out.bel HBS5.out)
    have HSL6 := HSL2
    have HB6 : Hid (Below wr.heap.size wr wS5) := Lib.hid (HB3.out.trans (HBS5.out.mono HB3.out.size))
    clear hBx5 hSx5 HBS5 HV2 HJ3 HB3 HB5
    go_upto_region 10 with (first | refine wpList_loadJ rfl _ rfl r2 HV6.out rfl ?_ | (refine wpList_buildJ rfl _ rfl r2 rfl ?_; intro wL hBL) | (refine wpList_allocJ rfl rfl ?_; intro wa7 hBx7) | (refine wpList_storeJ rfl _ _ rfl rfl hBx7.row rfl (.mk 4 false Dec.zero [] [r2.1] [], .slice (some ⟨wS5.heap.size, 0, none⟩) 1 1, .slice none 0 0) ⟨rfl, rfl⟩ rfl rfl ?_; intro wS7 hSx7))
    as_aux_lemma =>
     have HBL7 : Hid (Below wL.heap.size wL wS7) := Lib.hid (hSx7.below hBx7.be (Nat.le_refl _) hBx7.be.size)
     have HBS7 : Hid (Below wS5.heap.size wS5 wS7) := Lib.hid (hBL.be.trans (HBL7.out.mono hBL.be.size))
     have HJ7 : Hid (JV wS7 (fun _ => True) (.mk 4 false Dec.zero [] [r2.1] [], .slice (some ⟨wS5.heap.size, 0, none⟩) 1 1, .slice none 0 0)) := Lib.hid (JV.one1 ((HJ6.out.bel HBS7.out).mono (fun _ _ _ => trivial)) (by have := HBL7.out.size; have := hBL.size; omega) trivial (hBL.row.below HBL7.out))
     have HV7 := Lib.hid hSx7.row
     have HV8 := Lib.hid (HV6.out.below HBS7.out)
     have HJ8 := Lib.hid (HJ6.out.bel HBS7.out)
     have HB8 : Hid (Below wr.heap.size wr wS7) := Lib.hid (HB6.out.trans (HBS7.out.mono HB6.out.size))
     obtain ⟨g7, hg7⟩ : ∃ g, wL.heap.size = g := ⟨_, rfl⟩
     rw [hg7] at HV7 ⊢
     obtain ⟨r7, hr7⟩ : ∃ r : JR, (J.mk 4 false Dec.zero [] [r2.1] [], Value.slice (some ⟨wS5.heap.size, 0, none⟩) 1 1, Value.slice none 0 0) = r := ⟨_, rfl⟩
     have HR7 : Hid (r7.1 = nest 64) := Lib.hid (by rw [← hr7, HR2.out]; rfl)
     rw [hr7] at HJ7 HV7
     clear hBL hBx7 hSx7 hg7 hr7 HBL7 HBS7 HV6 HJ6 HB6
     go_wp2_with (at_make; go_must (refine wpList_make_F rfl _ _ rfl _ _ 1048577 rfl rfl rfl rfl (by omega) (by omega) ?_))
     intro w8 hF8 hb8
     obtain ⟨g8, hg8⟩ : ∃ g, wS7.heap.size = g := ⟨_, rfl⟩
     have HG8 := Lib.hid hg8
     rw [hg8] at hF8 ⊢
     have HF8 := Lib.hid hF8
     have HB88 := Lib.hid hb8
     clear hF8 hb8 hg8
     go_wp2_with fail
     as_aux_lemma =>
      go_loopg [9] 1048577 (fun kk s9 wy => ∃ i : Nat, kk = 1048577 - i ∧ i ≤ 1048577 ∧ s9 = .int .i64 (i : Int) ∧ BytF wy g8 1048577 (lF i) ∧ Below wS7.heap.size wS7 wy)
      case atStart => exact ⟨0, rfl, by omega, rfl, ⟨HF8.out.lt, fun i hi => by rw [HF8.out.cell i hi]; unfold lF; rw [if_neg (by omega)], HF8.out.free⟩, HB88.out⟩
      case round =>
       obtain ⟨i, hki, hi, rfl, hF, hb⟩ := hrel
       have Hki := Lib.hid hki
       have HFy := Lib.hid hF
       have HBy := Lib.hid hb
       clear hki hF hb HF8 HB88
       by_cases hlt : i < 1048577
       ·
        have hlti : (i : Int) < 1048577 := by omega
        have c1 := HFy.out.cell i hlt
        have z1 := HFy.out.free i hlt
        go_wp2_with fail
        have HN := Lib.hid (HFy.out.put (f' := lF (i + 1)) i 97 hlt (fun j _ => lF_put i j))
        have HBN := Lib.hid (HBy.out.setCell (p := ⟨g8, i, none⟩) (by show wS7.heap.size ≤ g8; rw [HG8.out]; omega) (.int .u8 97))
        go_roundg (1048577 - (i + 1))
        case measure => have := Hki.out; omega
        case rel => exact ⟨i + 1, rfl, by omega, by go_num, HN.out, HBN.out⟩
       ·
        obtain rfl : i = 1048577 := by omega
        have hni : ¬ ((1048577 : Nat) : Int) < 1048577 := by omega
        have c1 := HFy.out.cell 0 (by omega)
        have z1 := HFy.out.free 0 (by omega)
        have c2 := HFy.out.cell 1048575 (by omega)
        have z2 := HFy.out.free 1048575 (by omega)
        go_upto_region 16 with fail
        as_aux_lemma =>
         have HQF : Hid (BytF ((wr.setCell ⟨g8, 0, none⟩ (.int .u8 34)).setCell ⟨g8, 1048575, none⟩ (.int .u8 34)) g8 1048577 qF) := Lib.hid ((HFy.out.put (f' := fun j => if j = 0 then 34 else lF 1048577 j) 0 34 (by omega) (fun j _ => rfl)).put (f' := qF) 1048575 34 (by omega) qF_put)
         have HBQ : Hid (Below wS7.heap.size wS7 ((wr.setCell ⟨g8, 0, none⟩ (.int .u8 34)).setCell ⟨g8, 1048575, none⟩ (.int .u8 34))) := Lib.hid ((HBy.out.setCell (p := ⟨g8, 0, none⟩) (by show wS7.heap.size ≤ g8; rw [HG8.out]; omega) (.int .u8 34)).setCell (p := ⟨g8, 1048575, none⟩) (by show wS7.heap.size ≤ g8; rw [HG8.out]; omega) (.int .u8 34))
         generalize ((wr.setCell ⟨g8, 0, none⟩ (.int .u8 34)).setCell ⟨g8, 1048575, none⟩ (.int .u8 34)) = wq at *
         clear c1 z1 c2 z2 hni HFy HBy
         have hl1 : (34 :: (aN 1048574 ++ [34])).length = 1048576 := by rw [List.length_cons, List.length_append, aN_len]; rfl
         have hl2 : (34 :: (aN 1048574 ++ [34, 97])).length = 1048577 := by rw [List.length_cons, List.length_append, aN_len]; rfl
         have hx1 := HQF.out.byts 0 1048577 (34 :: (aN 1048574 ++ [34])) (by rw [hl1]; omega) (by rw [hl1]; omega) (by rw [hl1]; unfold maxLen; omega) (fun j hj => by rw [hl1] at hj; rw [long_at 1048574 [] j (by omega), Nat.zero_add]; rfl)
         rw [hl1] at hx1
         have hx2 := HQF.out.byts 0 1048577 (34 :: (aN 1048574 ++ [34, 97])) (by rw [hl2]; omega) (by rw [hl2]; omega) (by rw [hl2]; unfold maxLen; omega) (fun j hj => by rw [hl2] at hj; by_cases h9 : j < 1048576; (rw [long_at 1048574 [97] j (by omega), Nat.zero_add]; rfl); (obtain rfl : j = 1048576 := by omega); rw [qF_end]; exact long_end 1048574 1048576 (by omega))
         rw [hl2] at hx2
         have HX1 := Lib.hid hx1
         have HX2 := Lib.hid hx2
         have HL2 : Hid (parseJ [] (34 :: (aN 1048574 ++ [34, 97])) = (J.zero, 3)) := Lib.hid (par_long _ (by rw [hl2]; omega))
         clear hx1 hx2 hl1 hl2
         obtain ⟨l1, hl1⟩ : ∃ l, 34 :: (aN 1048574 ++ [34]) = l := ⟨_, rfl⟩
         obtain ⟨l2, hl2⟩ : ∃ l, 34 :: (aN 1048574 ++ [34, 97]) = l := ⟨_, rfl⟩
         have HL1 : Hid (parseJ [] l1 = (txtJ 1048574, 0)) := Lib.hid (by rw [← hl1]; exact par_a 1048574 (by omega))
         rw [hl1] at HX1
         rw [hl2] at HX2 HL2
         clear hl1 hl2
         have HB9 : Hid (Below w.heap.size w wq) := Lib.hid (HB.out.trans ((HB8.out.trans (HBQ.out.mono HB8.out.size)).mono HB.out.size))
         have HTQ := Lib.hid (He.out.below HB9.out (Nat.le_refl _))
         go_wp2_with fail
         refine (parseP_calls wq _ l1 HX1.out HTQ.out.utf).mono ?_
         rintro e w10 ⟨r10, rfl, hr10, hj10, hb10⟩
         rw [HL1.out] at hr10 ⊢
         have HR10 := Lib.hid hr10
         have HJ10 := Lib.hid hj10
         have HSL10 := Lib.hid hj10.slJ
         have HB10 := Lib.hid hb10
         clear hr10 hj10 hb10
         go_upto_region 17 with (first | (refine wpList_allocJ rfl rfl ?_; intro wa10 hBx10) | (refine wpList_storeJ rfl _ _ rfl rfl hBx10.row rfl r10 HSL10.out rfl rfl ?_; intro wS10 hSx10))
         as_aux_lemma =>
          have HV10 := Lib.hid hSx10.row
          have HBS10 : Hid (Below w10.heap.size w10 wS10) := Lib.hid (hSx10.below hBx10.be (Nat.le_refl _) hBx10.be.size)
          have HJ11 := Lib.hid (HJ10.out.bel HBS10.out)
          have HB11 : Hid (Below wq.heap.size wq wS10) := Lib.hid (HB10.out.trans (HBS10.out.mono HB10.out.size))
          obtain ⟨g10, hg10⟩ : ∃ g, w10.heap.size = g := ⟨_, rfl⟩
          rw [hg10] at HV10 ⊢
          clear hBx10 hSx10 hg10 HBS10 HJ10 HB10
          go_wp2_with fail
          refine (parseP_calls wS10 _ l2 (HX2.out.below HB11.out) (HTQ.out.below HB11.out (Nat.le_refl _)).utf).mono ?_
          rintro e w12 ⟨r12, rfl, hr12, hj12, hb12⟩
          rw [HL2.out] at hr12 ⊢
          have HSL12 := Lib.hid hj12.slJ
          have HB12 := Lib.hid hb12
          clear hr12 hj12 hb12
          go_upto_region 18 with (first | (refine wpList_allocJ rfl rfl ?_; intro wa12 hBx12) | (refine wpList_storeJ rfl _ _ rfl rfl hBx12.row rfl r12 HSL12.out rfl rfl ?_; intro wS12 hSx12))
          as_aux_lemma =>
           have HBS12 : Hid (Below wS10.heap.size wS10 wS12) := Lib.hid (HB12.out.trans ((hSx12.below hBx12.be (Nat.le_refl _) hBx12.be.size).mono HB12.out.size))
           have HV13 := Lib.hid (HV10.out.below HBS12.out)
           have HJ13 := Lib.hid (HJ11.out.bel HBS12.out)
           have HB13 : Hid (Below wq.heap.size wq wS12) := Lib.hid (HB11.out.trans (HBS12.out.mono HB11.out.size))
           clear hBx12 hSx12 HBS12 HV10 HJ11 HB11 HB12
           obtain ⟨T, hT⟩ : ∃ T, aN 1048574 = T := ⟨_, rfl⟩
           have HTT := Lib.hid hT
           have c5 : _ = some (Value.string ⟨T.toArray⟩) := (HV13.out.cell 5 _ rfl).trans (by rw [HR10.out, ← hT]; rfl)
           have hTl : T.length ≤ 1048574 := by rw [← hT, aN_len]; omega
           clear hT
           go_upto_region 19 with (first | (refine wpList_allocJ rfl rfl ?_; intro wa14 hBx14) | (refine wpList_storeJ rfl _ _ rfl rfl hBx14.row rfl (.mk 3 false Dec.zero (T ++ [97]) [] [], .slice none 0 0, .slice none 0 0) ⟨rfl, rfl⟩ rfl (by first | rfl | (simp [Act.eval]; rfl)) ?_; intro wS14 hSx14))
           have HV14 := Lib.hid hSx14.row
           have HBS14 : Hid (Below wS12.heap.size wS12 wS14) := Lib.hid (hSx14.below hBx14.be (Nat.le_refl _) hBx14.be.size)
           have HV15 := Lib.hid (HV13.out.below HBS14.out)
           have HJ15 := Lib.hid (HJ13.out.bel HBS14.out)
           have HB15 : Hid (Below wq.heap.size wq wS14) := Lib.hid (HB13.out.trans (HBS14.out.mono HB13.out.size))
           obtain ⟨g14, hg14⟩ : ∃ g, wS12.heap.size = g := ⟨_, rfl⟩
           rw [hg14] at HV14 ⊢
           clear hBx14 hSx14 hg14 HBS14 HV13 HJ13 HB13 c5
           obtain ⟨U, hU⟩ : ∃ U, T ++ [97] = U := ⟨_, rfl⟩
           have HU : Hid (U = aN 1048575) := Lib.hid (by rw [← hU, ← HTT.out]; exact aN_app 1048574 1)
           rw [hU] at HV14
           have hUl : U.length ≤ 1048575 := by rw [HU.out, aN_len]; omega
           have d5 : _ = some (Value.string ⟨U.toArray⟩) := HV14.out.cell 5 _ rfl
           clear hU hTl
           go_wp2_with fail
           as_aux_lemma =>
            refine (quote_calls U wS14 (by omega) (HTQ.out.below HB15.out (Nat.le_refl _)).utf).mono ?_
            rintro e w16 ⟨rfl, hb16⟩
            have HQU : Hid (quoR3 U = (quoT U, 0)) := Lib.hid (by rw [HU.out]; exact quo_a _ (by omega))
            rw [show quoR3 U = (quoT U, 0) from HQU.out]
            have HB16 : Hid (Below wq.heap.size wq w16) := Lib.hid (HB15.out.trans (hb16.mono HB15.out.size))
            have HV16 := Lib.hid (HV14.out.below hb16)
            have HV17 := Lib.hid (HV15.out.below hb16)
            have HJ17 := Lib.hid (HJ15.out.bel hb16)
            clear hb16 d5 HV14 HV15 HJ15 HB15
            have d5 : _ = some (Value.string ⟨U.toArray⟩) := HV16.out.cell 5 _ rfl
            go_wp2_with fail
            have HU2 : Hid (U ++ [97, 97] = aN 1048577) := Lib.hid (by rw [HU.out]; exact aN_app 1048575 2)
            refine (quote_calls (U ++ [97, 97]) w16 (by rw [HU2.out, aN_len]; omega) (HTQ.out.below HB16.out (Nat.le_refl _)).utf).mono ?_
            rintro e w18 ⟨rfl, hb18⟩
            have HQ2 : Hid (quoR3 (U ++ [97, 97]) = ([], 3)) := Lib.hid (by rw [HU2.out]; exact quo_big _ (by omega))
            rw [show quoR3 (U ++ [97, 97]) = ([], 3) from HQ2.out]
            have HB18 : Hid (Below wq.heap.size wq w18) := Lib.hid (HB16.out.trans (hb18.mono HB16.out.size))
            have HV18 := Lib.hid (HV16.out.below hb18)
            have HV19 := Lib.hid (HV17.out.below hb18)
            have HJ19 := Lib.hid (HJ17.out.bel hb18)
            clear hb18 d5 HV16 HV17 HJ17 HB16
            go_wp2_with fail
            as_aux_lemma =>
             have HBX : Hid (Below wS7.heap.size wS7 w18) := Lib.hid (HBQ.out.trans (HB18.out.mono HBQ.out.size))
             have HXX := Lib.hid (HB8.out.trans (HBX.out.mono HB8.out.size))
             have HV3 := Lib.hid (HV8.out.below HBX.out)
             have HV77 := Lib.hid (HV7.out.below HBX.out)
             have HJ3 := Lib.hid (HJ8.out.bel HBX.out)
             have HJ77 := Lib.hid (HJ7.out.bel HBX.out)
             have HE18 : Hid (EnvJ w18) := Lib.hid (HTQ.out.below HB18.out (Nat.le_refl _))
             have HD := Lib.hid ((HQ.out 129 (by omega)).below HXX.out)
             have HW0 : Hid (Below w.heap.size w w18) := Lib.hid (HB9.out.trans (HB18.out.mono HB9.out.size))
             obtain ⟨r14, hr14⟩ : ∃ r : JR, (J.mk 3 false Dec.zero U [] [], Value.slice none 0 0, Value.slice none 0 0) = r := ⟨_, rfl⟩
             have HJ14 : Hid (JV w18 (fun _ => True) r14) := Lib.hid (by rw [← hr14]; exact JV.leaf _ _ _ _ _ _)
             have HR14 : Hid (r14.1 = txtJ 1048575) := Lib.hid (by rw [← hr14]; show J.mk 3 false Dec.zero U [] [] = _; rw [HU.out]; rfl)
             rw [hr14] at HV18
             clear hr14
             obtain ⟨D, hD⟩ : ∃ D, deepB 64 = D := ⟨_, rfl⟩
             rw [hD] at HD
             have HDD := Lib.hid hD
             clear hD
             have HX0 : Hid (Below w18.heap.size w18 w18) := Lib.hid (Below.refl _ _)
             have hql : (((quoT U).length : Int) == 1048577) = true := by rw [HU.out, quoT_a_len]; rfl
             obtain ⟨QT, hQT⟩ : ∃ q, quoT U = q := ⟨_, rfl⟩
             rw [hQT] at hql ⊢
             clear hQT
             have hTe : ((T.length : Int) == 1048574) = true := by rw [← HTT.out, aN_len]; rfl
             clear HBX HXX HV8 HV7 HJ8 HJ7 HTQ HB9 HQ HBQ HB18
             clear HB HX0
             have HB := HW0
             have HE := HE18
             clear HW0 HE18
             as_aux_lemma =>
              have HC5 : Hid (∀ wq, RowAt wq g10 (jcells r10) → wq.cell? ⟨g10, 5, none⟩ = some (.string ⟨T.toArray⟩)) := Lib.hid (fun wq h => (h.cell 5 _ rfl).trans (by rw [HR10.out, ← HTT.out]; rfl))
              have hS0 : (fun wq => RowAt wq g3 (jcells r2) ∧ RowAt wq g7 (jcells r7) ∧ RowAt wq g10 (jcells r10) ∧ RowAt wq g14 (jcells r14) ∧ BytS wq (.slice (some ⟨g1, 1, none⟩) 128 129) D ∧ wq.cell? ⟨g10, 5, none⟩ = some (.string ⟨T.toArray⟩)) w18.drew := ⟨HV3.out.below (Below.refl _ _).drew, HV77.out.below (Below.refl _ _).drew, HV19.out.below (Below.refl _ _).drew, HV18.out.below (Below.refl _ _).drew, HD.out.below (Below.refl _ _).drew, HC5.out _ (HV19.out.below (Below.refl _ _).drew)⟩
              go_upto_region 21 with fail
              try dsimp only [List.append]
              have hb : Below w18.heap.size w18 w18.drew := (Below.refl _ _).drew
              refine wp_region_held_drew (S := (fun wq => RowAt wq g3 (jcells r2) ∧ RowAt wq g7 (jcells r7) ∧ RowAt wq g10 (jcells r10) ∧ RowAt wq g14 (jcells r14) ∧ BytS wq (.slice (some ⟨g1, 1, none⟩) 128 129) D ∧ wq.cell? ⟨g10, 5, none⟩ = some (.string ⟨T.toArray⟩))) (by kernel_rfl) hS0 (fun hHeld0 => ?_)
              generalize w18.drew = wd at *
              replace HE := Lib.hid (HE.out.below hb (Nat.le_refl _))
              replace HV3 := Lib.hid (HV3.out.below hb)
              replace HV77 := Lib.hid (HV77.out.below hb)
              replace HV19 := Lib.hid (HV19.out.below hb)
              replace HV18 := Lib.hid (HV18.out.below hb)
              replace HD := Lib.hid (HD.out.below hb)
              replace HJ3 := Lib.hid (HJ3.out.bel hb)
              replace HJ77 := Lib.hid (HJ77.out.bel hb)
              replace HJ19 := Lib.hid (HJ19.out.bel hb)
              replace HJ14 := Lib.hid (HJ14.out.bel hb)
              replace HB := Lib.hid (HB.out.trans (hb.mono HB.out.size))
              clear hb
              refine held_tk 0 ?_ (fun wq hSq => ?_) hHeld0 ?_
              rotate_left
              ·(try dsimp only at hSq); go_simp; try with_reducible rfl
              simp only [Act.put, sbA, sbB, sbC]
              refine held_step (i := 1) (by kernel_rfl) rfl (by rfl) (fun K hK => ?_)
              go_simp
              refine (num_calls _ wd).mono ?_
              rintro e wq9 ⟨rfl, rfl⟩
              have hS1 : (fun wq => RowAt wq g3 (jcells r2) ∧ RowAt wq g7 (jcells r7) ∧ RowAt wq g10 (jcells r10) ∧ RowAt wq g14 (jcells r14) ∧ BytS wq (.slice (some ⟨g1, 1, none⟩) 128 129) D ∧ wq.cell? ⟨g10, 5, none⟩ = some (.string ⟨T.toArray⟩)) wd := ⟨HV3.out, HV77.out, HV19.out, HV18.out, HD.out, HC5.out _ HV19.out⟩
              refine hK.out _ _ hS1 (fun hHeld1 => ?_)
              clear hK K hHeld0
              refine held_tk 2 ?_ (fun wq hSq => ?_) hHeld1 ?_
              rotate_left
              ·(try dsimp only at hSq); go_simp; try with_reducible rfl
              simp only [Act.put, sbA, sbB, sbC]
              refine held_tk 3 ?_ (fun wq hSq => ?_) hHeld1 ?_
              rotate_left
              ·(try dsimp only at hSq); go_simp; try with_reducible rfl
              simp only [Act.put, sbA, sbB, sbC]
              refine held_take (i := 4) (v := jval r2) rfl (by kernel_rfl) (by kernel_rfl) (by kernel_rfl) (fun _ _ _ h => h) (by rfl) (fun wq hSq => exec_loadJ _ rfl rfl r2 hSq.1) hHeld1 ?_
              simp only [Act.put, sbA, sbB, sbC]
              refine held_step (i := 5) (by kernel_rfl) rfl (by rfl) (fun K hK => ?_)
              go_simp
              refine (checkJ_calls (r1 := r2) HJ3.out HE.out.tab HE.out.utf wd (Below.refl _ _) (by rw [HR2.out]; exact sz63)).mono ?_
              rintro e w2z ⟨rfl, hb⟩
              rw [HR2.out, chk64]
              replace HE := Lib.hid (HE.out.below hb (Nat.le_refl _))
              replace HV3 := Lib.hid (HV3.out.below hb)
              replace HV77 := Lib.hid (HV77.out.below hb)
              replace HV19 := Lib.hid (HV19.out.below hb)
              replace HV18 := Lib.hid (HV18.out.below hb)
              replace HD := Lib.hid (HD.out.below hb)
              replace HJ3 := Lib.hid (HJ3.out.bel hb)
              replace HJ77 := Lib.hid (HJ77.out.bel hb)
              replace HJ19 := Lib.hid (HJ19.out.bel hb)
              replace HJ14 := Lib.hid (HJ14.out.bel hb)
              replace HB := Lib.hid (HB.out.trans (hb.mono HB.out.size))
              clear hb
              have hS2 : (fun wq => RowAt wq g3 (jcells r2) ∧ RowAt wq g7 (jcells r7) ∧ RowAt wq g10 (jcells r10) ∧ RowAt wq g14 (jcells r14) ∧ BytS wq (.slice (some ⟨g1, 1, none⟩) 128 129) D ∧ wq.cell? ⟨g10, 5, none⟩ = some (.string ⟨T.toArray⟩)) w2z := ⟨HV3.out, HV77.out, HV19.out, HV18.out, HD.out, HC5.out _ HV19.out⟩
              refine hK.out _ _ hS2 (fun hHeld2 => ?_)
              clear hK K hHeld1
              refine held_step (i := 6) (by kernel_rfl) rfl (by rfl) (fun K hK => ?_)
              go_simp
              refine (num_calls _ w2z).mono ?_
              rintro e wq9 ⟨rfl, rfl⟩
              have hS3 : (fun wq => RowAt wq g3 (jcells r2) ∧ RowAt wq g7 (jcells r7) ∧ RowAt wq g10 (jcells r10) ∧ RowAt wq g14 (jcells r14) ∧ BytS wq (.slice (some ⟨g1, 1, none⟩) 128 129) D ∧ wq.cell? ⟨g10, 5, none⟩ = some (.string ⟨T.toArray⟩)) w2z := ⟨HV3.out, HV77.out, HV19.out, HV18.out, HD.out, HC5.out _ HV19.out⟩
              refine hK.out _ _ hS3 (fun hHeld3 => ?_)
              clear hK K hHeld2
              refine held_tk 7 ?_ (fun wq hSq => ?_) hHeld3 ?_
              rotate_left
              ·(try dsimp only at hSq); go_simp; try with_reducible rfl
              simp only [Act.put, sbA, sbB, sbC]
              refine held_tk 8 ?_ (fun wq hSq => ?_) hHeld3 ?_
              rotate_left
              ·(try dsimp only at hSq); go_simp; try with_reducible rfl
              simp only [Act.put, sbA, sbB, sbC]
              refine held_tk 9 ?_ (fun wq hSq => ?_) hHeld3 ?_
              rotate_left
              ·(try dsimp only at hSq); go_simp; try with_reducible rfl
              simp only [Act.put, sbA, sbB, sbC]
              refine held_take (i := 10) (v := jval r2) rfl (by kernel_rfl) (by kernel_rfl) (by kernel_rfl) (fun _ _ _ h => h) (by rfl) (fun wq hSq => exec_loadJ _ rfl rfl r2 hSq.1) hHeld3 ?_
              simp only [Act.put, sbA, sbB, sbC]
              refine held_step (i := 11) (by kernel_rfl) rfl (by rfl) (fun K hK => ?_)
              go_simp
              refine (depthJ_calls (r1 := r2) HJ3.out HE.out.tab HE.out.utf w2z (Below.refl _ _) (by rw [HR2.out]; exact sz63)).mono ?_
              rintro e w4z ⟨rfl, hb⟩
              rw [HR2.out, dep64]
              replace HE := Lib.hid (HE.out.below hb (Nat.le_refl _))
              replace HV3 := Lib.hid (HV3.out.below hb)
              replace HV77 := Lib.hid (HV77.out.below hb)
              replace HV19 := Lib.hid (HV19.out.below hb)
              replace HV18 := Lib.hid (HV18.out.below hb)
              replace HD := Lib.hid (HD.out.below hb)
              replace HJ3 := Lib.hid (HJ3.out.bel hb)
              replace HJ77 := Lib.hid (HJ77.out.bel hb)
              replace HJ19 := Lib.hid (HJ19.out.bel hb)
              replace HJ14 := Lib.hid (HJ14.out.bel hb)
              replace HB := Lib.hid (HB.out.trans (hb.mono HB.out.size))
              clear hb
              have hS4 : (fun wq => RowAt wq g3 (jcells r2) ∧ RowAt wq g7 (jcells r7) ∧ RowAt wq g10 (jcells r10) ∧ RowAt wq g14 (jcells r14) ∧ BytS wq (.slice (some ⟨g1, 1, none⟩) 128 129) D ∧ wq.cell? ⟨g10, 5, none⟩ = some (.string ⟨T.toArray⟩)) w4z := ⟨HV3.out, HV77.out, HV19.out, HV18.out, HD.out, HC5.out _ HV19.out⟩
              refine hK.out _ _ hS4 (fun hHeld4 => ?_)
              clear hK K hHeld3
              refine held_tk 12 ?_ (fun wq hSq => ?_) hHeld4 ?_
              rotate_left
              ·(try dsimp only at hSq); go_simp; try with_reducible rfl
              simp only [Act.put, sbA, sbB, sbC]
              refine held_tk 13 ?_ (fun wq hSq => ?_) hHeld4 ?_
              rotate_left
              ·(try dsimp only at hSq); go_simp; try with_reducible rfl
              simp only [Act.put, sbA, sbB, sbC]
              refine held_tk 14 ?_ (fun wq hSq => ?_) hHeld4 ?_
              rotate_left
              ·(try dsimp only at hSq); go_simp; try with_reducible rfl
              simp only [Act.put, sbA, sbB, sbC]
              refine held_take (i := 15) (v := jval r2) rfl (by kernel_rfl) (by kernel_rfl) (by kernel_rfl) (fun _ _ _ h => h) (by rfl) (fun wq hSq => exec_loadJ _ rfl rfl r2 hSq.1) hHeld4 ?_
              simp only [Act.put, sbA, sbB, sbC]
              refine held_tk 18 ?_ (fun wq hSq => ?_) hHeld4 ?_
              rotate_left
              ·(try dsimp only at hSq); go_simp; try with_reducible rfl
              simp only [Act.put, sbA, sbB, sbC]
              refine held_tk 19 ?_ (fun wq hSq => ?_) hHeld4 ?_
              rotate_left
              ·(try dsimp only at hSq); go_simp; try with_reducible rfl
              simp only [Act.put, sbA, sbB, sbC]
              refine held_take (i := 20) (v := .string ⟨D.toArray⟩) rfl (by kernel_rfl) (by kernel_rfl) (by kernel_rfl) (fun _ _ _ h => h) (by rfl) (fun wq hSq => exec_conv9 _ rfl hSq.2.2.2.2.1 rfl) hHeld4 ?_
              simp only [Act.put, sbA, sbB, sbC]
              refine held_step (i := 16) (by kernel_rfl) rfl (by rfl) (fun K hK => ?_)
              go_simp
              as_aux_lemma =>
               refine (printJ_calls (r1 := r2) HJ3.out HE.out.tab HE.out.utf w4z (Below.refl _ _) (by rw [HR2.out]; exact sz63)).mono ?_
               rintro e w5z ⟨pv, rfl, hF, hb⟩
               rw [HR2.out, prn64, HDD.out] at hF
               obtain ⟨ps, cs, rfl⟩ := hF.slice
               have hcv := hF.string
               clear hF
               replace HE := Lib.hid (HE.out.below hb (Nat.le_refl _))
               replace HV3 := Lib.hid (HV3.out.below hb)
               replace HV77 := Lib.hid (HV77.out.below hb)
               replace HV19 := Lib.hid (HV19.out.below hb)
               replace HV18 := Lib.hid (HV18.out.below hb)
               replace HD := Lib.hid (HD.out.below hb)
               replace HJ3 := Lib.hid (HJ3.out.bel hb)
               replace HJ77 := Lib.hid (HJ77.out.bel hb)
               replace HJ19 := Lib.hid (HJ19.out.bel hb)
               replace HJ14 := Lib.hid (HJ14.out.bel hb)
               replace HB := Lib.hid (HB.out.trans (hb.mono HB.out.size))
               clear hb
               have hS5 : (fun wq => RowAt wq g3 (jcells r2) ∧ RowAt wq g7 (jcells r7) ∧ RowAt wq g10 (jcells r10) ∧ RowAt wq g14 (jcells r14) ∧ BytS wq (.slice (some ⟨g1, 1, none⟩) 128 129) D ∧ wq.cell? ⟨g10, 5, none⟩ = some (.string ⟨T.toArray⟩)) w5z := ⟨HV3.out, HV77.out, HV19.out, HV18.out, HD.out, HC5.out _ HV19.out⟩
               refine hK.out _ _ hS5 (fun hHeld5 => ?_)
               clear hK K hHeld4
               refine held_step (i := 17) (by kernel_rfl) rfl (by rfl) (fun K hK => ?_)
               go_simp
               have hS6 : (fun wq => RowAt wq g3 (jcells r2) ∧ RowAt wq g7 (jcells r7) ∧ RowAt wq g10 (jcells r10) ∧ RowAt wq g14 (jcells r14) ∧ BytS wq (.slice (some ⟨g1, 1, none⟩) 128 129) D ∧ wq.cell? ⟨g10, 5, none⟩ = some (.string ⟨T.toArray⟩)) w5z := ⟨HV3.out, HV77.out, HV19.out, HV18.out, HD.out, HC5.out _ HV19.out⟩
               clear hcv
               refine hK.out _ _ hS6 (fun hHeld6 => ?_)
               clear hK K hHeld5
               refine held_tk 21 ?_ (fun wq hSq => ?_) hHeld6 ?_
               rotate_left
               ·(try dsimp only at hSq); go_simp; try with_reducible rfl
               simp only [Act.put, sbA, sbB, sbC]
               refine held_tk 22 ?_ (fun wq hSq => ?_) hHeld6 ?_
               rotate_left
               ·(try dsimp only at hSq); go_simp; try with_reducible rfl
               simp only [Act.put, sbA, sbB, sbC]
               refine held_tk 23 ?_ (fun wq hSq => ?_) hHeld6 ?_
               rotate_left
               ·(try dsimp only at hSq); go_simp; try with_reducible rfl
               simp only [Act.put, sbA, sbB, sbC]
               refine held_tk 24 ?_ (fun wq hSq => ?_) hHeld6 ?_
               rotate_left
               ·(try dsimp only at hSq); go_simp; try with_reducible rfl
               simp only [Act.put, sbA, sbB, sbC]
               refine held_step (i := 25) (by kernel_rfl) rfl (by rfl) (fun K hK => ?_)
               go_simp
               refine (num_calls _ w5z).mono ?_
               rintro e wq9 ⟨rfl, rfl⟩
               have hS7 : (fun wq => RowAt wq g3 (jcells r2) ∧ RowAt wq g7 (jcells r7) ∧ RowAt wq g10 (jcells r10) ∧ RowAt wq g14 (jcells r14) ∧ BytS wq (.slice (some ⟨g1, 1, none⟩) 128 129) D ∧ wq.cell? ⟨g10, 5, none⟩ = some (.string ⟨T.toArray⟩)) w5z := ⟨HV3.out, HV77.out, HV19.out, HV18.out, HD.out, HC5.out _ HV19.out⟩
               refine hK.out _ _ hS7 (fun hHeld7 => ?_)
               clear hK K hHeld6
               refine held_tk 26 ?_ (fun wq hSq => ?_) hHeld7 ?_
               rotate_left
               ·(try dsimp only at hSq); go_simp; try with_reducible rfl
               simp only [Act.put, sbA, sbB, sbC]
               refine held_tk 27 ?_ (fun wq hSq => ?_) hHeld7 ?_
               rotate_left
               ·(try dsimp only at hSq); go_simp; try with_reducible rfl
               simp only [Act.put, sbA, sbB, sbC]
               refine held_tk 28 ?_ (fun wq hSq => ?_) hHeld7 ?_
               rotate_left
               ·(try dsimp only at hSq); go_simp; try with_reducible rfl
               simp only [Act.put, sbA, sbB, sbC]
               refine held_take (i := 29) (v := jval r7) rfl (by kernel_rfl) (by kernel_rfl) (by kernel_rfl) (fun _ _ _ h => h) (by rfl) (fun wq hSq => exec_loadJ _ rfl rfl r7 hSq.2.1) hHeld7 ?_
               simp only [Act.put, sbA, sbB, sbC]
               refine held_step (i := 30) (by kernel_rfl) rfl (by rfl) (fun K hK => ?_)
               go_simp
               refine (checkJ_calls (r1 := r7) HJ77.out HE.out.tab HE.out.utf w5z (Below.refl _ _) (by rw [HR7.out]; exact sz64)).mono ?_
               rintro e w8z ⟨rfl, hb⟩
               rw [HR7.out, chk65]
               replace HE := Lib.hid (HE.out.below hb (Nat.le_refl _))
               replace HV3 := Lib.hid (HV3.out.below hb)
               replace HV77 := Lib.hid (HV77.out.below hb)
               replace HV19 := Lib.hid (HV19.out.below hb)
               replace HV18 := Lib.hid (HV18.out.below hb)
               replace HD := Lib.hid (HD.out.below hb)
               replace HJ3 := Lib.hid (HJ3.out.bel hb)
               replace HJ77 := Lib.hid (HJ77.out.bel hb)
               replace HJ19 := Lib.hid (HJ19.out.bel hb)
               replace HJ14 := Lib.hid (HJ14.out.bel hb)
               replace HB := Lib.hid (HB.out.trans (hb.mono HB.out.size))
               clear hb
               have hS8 : (fun wq => RowAt wq g3 (jcells r2) ∧ RowAt wq g7 (jcells r7) ∧ RowAt wq g10 (jcells r10) ∧ RowAt wq g14 (jcells r14) ∧ BytS wq (.slice (some ⟨g1, 1, none⟩) 128 129) D ∧ wq.cell? ⟨g10, 5, none⟩ = some (.string ⟨T.toArray⟩)) w8z := ⟨HV3.out, HV77.out, HV19.out, HV18.out, HD.out, HC5.out _ HV19.out⟩
               refine hK.out _ _ hS8 (fun hHeld8 => ?_)
               clear hK K hHeld7
               refine held_step (i := 31) (by kernel_rfl) rfl (by rfl) (fun K hK => ?_)
               go_simp
               refine (num_calls _ w8z).mono ?_
               rintro e wq9 ⟨rfl, rfl⟩
               have hS9 : (fun wq => RowAt wq g3 (jcells r2) ∧ RowAt wq g7 (jcells r7) ∧ RowAt wq g10 (jcells r10) ∧ RowAt wq g14 (jcells r14) ∧ BytS wq (.slice (some ⟨g1, 1, none⟩) 128 129) D ∧ wq.cell? ⟨g10, 5, none⟩ = some (.string ⟨T.toArray⟩)) w8z := ⟨HV3.out, HV77.out, HV19.out, HV18.out, HD.out, HC5.out _ HV19.out⟩
               refine hK.out _ _ hS9 (fun hHeld9 => ?_)
               clear hK K hHeld8
               refine held_tk 32 ?_ (fun wq hSq => ?_) hHeld9 ?_
               rotate_left
               ·(try dsimp only at hSq); go_simp; try with_reducible rfl
               simp only [Act.put, sbA, sbB, sbC]
               refine held_tk 33 ?_ (fun wq hSq => ?_) hHeld9 ?_
               rotate_left
               ·(try dsimp only at hSq); go_simp; try with_reducible rfl
               simp only [Act.put, sbA, sbB, sbC]
               refine held_tk 34 ?_ (fun wq hSq => ?_) hHeld9 ?_
               rotate_left
               ·(try dsimp only at hSq); go_simp; try with_reducible rfl
               simp only [Act.put, sbA, sbB, sbC]
               refine held_take (i := 35) (v := jval r7) rfl (by kernel_rfl) (by kernel_rfl) (by kernel_rfl) (fun _ _ _ h => h) (by rfl) (fun wq hSq => exec_loadJ _ rfl rfl r7 hSq.2.1) hHeld9 ?_
               simp only [Act.put, sbA, sbB, sbC]
               refine held_step (i := 36) (by kernel_rfl) rfl (by rfl) (fun K hK => ?_)
               go_simp
               as_aux_lemma =>
                refine (depthJ_calls (r1 := r7) HJ77.out HE.out.tab HE.out.utf w8z (Below.refl _ _) (by rw [HR7.out]; exact sz64)).mono ?_
                rintro e w10z ⟨rfl, hb⟩
                rw [HR7.out, dep65]
                replace HE := Lib.hid (HE.out.below hb (Nat.le_refl _))
                replace HV3 := Lib.hid (HV3.out.below hb)
                replace HV77 := Lib.hid (HV77.out.below hb)
                replace HV19 := Lib.hid (HV19.out.below hb)
                replace HV18 := Lib.hid (HV18.out.below hb)
                replace HD := Lib.hid (HD.out.below hb)
                replace HJ3 := Lib.hid (HJ3.out.bel hb)
                replace HJ77 := Lib.hid (HJ77.out.bel hb)
                replace HJ19 := Lib.hid (HJ19.out.bel hb)
                replace HJ14 := Lib.hid (HJ14.out.bel hb)
                replace HB := Lib.hid (HB.out.trans (hb.mono HB.out.size))
                clear hb
                have hS10 : (fun wq => RowAt wq g3 (jcells r2) ∧ RowAt wq g7 (jcells r7) ∧ RowAt wq g10 (jcells r10) ∧ RowAt wq g14 (jcells r14) ∧ BytS wq (.slice (some ⟨g1, 1, none⟩) 128 129) D ∧ wq.cell? ⟨g10, 5, none⟩ = some (.string ⟨T.toArray⟩)) w10z := ⟨HV3.out, HV77.out, HV19.out, HV18.out, HD.out, HC5.out _ HV19.out⟩
                refine hK.out _ _ hS10 (fun hHeld10 => ?_)
                clear hK K hHeld9
                refine held_tk 37 ?_ (fun wq hSq => ?_) hHeld10 ?_
                rotate_left
                ·(try dsimp only at hSq); go_simp; try with_reducible rfl
                simp only [Act.put, sbA, sbB, sbC]
                refine held_tk 38 ?_ (fun wq hSq => ?_) hHeld10 ?_
                rotate_left
                ·(try dsimp only at hSq); go_simp; try with_reducible rfl
                simp only [Act.put, sbA, sbB, sbC]
                refine held_tk 39 ?_ (fun wq hSq => ?_) hHeld10 ?_
                rotate_left
                ·(try dsimp only at hSq); go_simp; try with_reducible rfl
                simp only [Act.put, sbA, sbB, sbC]
                refine held_tk 40 ?_ (fun wq hSq => ?_) hHeld10 ?_
                rotate_left
                ·(try dsimp only at hSq); go_simp; try with_reducible rfl
                simp only [Act.put, sbA, sbB, sbC]
                refine held_step (i := 41) (by kernel_rfl) rfl (by rfl) (fun K hK => ?_)
                go_simp
                refine (num_calls _ w10z).mono ?_
                rintro e wq9 ⟨rfl, rfl⟩
                have hS11 : (fun wq => RowAt wq g3 (jcells r2) ∧ RowAt wq g7 (jcells r7) ∧ RowAt wq g10 (jcells r10) ∧ RowAt wq g14 (jcells r14) ∧ BytS wq (.slice (some ⟨g1, 1, none⟩) 128 129) D ∧ wq.cell? ⟨g10, 5, none⟩ = some (.string ⟨T.toArray⟩)) w10z := ⟨HV3.out, HV77.out, HV19.out, HV18.out, HD.out, HC5.out _ HV19.out⟩
                refine hK.out _ _ hS11 (fun hHeld11 => ?_)
                clear hK K hHeld10
                refine held_tk 42 ?_ (fun wq hSq => ?_) hHeld11 ?_
                rotate_left
                ·(try dsimp only at hSq); go_simp; try with_reducible rfl
                simp only [Act.put, sbA, sbB, sbC]
                refine held_tk 43 ?_ (fun wq hSq => ?_) hHeld11 ?_
                rotate_left
                ·(try dsimp only at hSq); go_simp; try with_reducible rfl
                simp only [Act.put, sbA, sbB, sbC]
                refine held_tk 44 ?_ (fun wq hSq => ?_) hHeld11 ?_
                rotate_left
                ·(try dsimp only at hSq); go_simp; try with_reducible rfl
                simp only [Act.put, sbA, sbB, sbC]
                refine held_tk 45 ?_ (fun wq hSq => ?_) hHeld11 ?_
                rotate_left
                ·(try dsimp only at hSq); go_simp; try with_reducible rfl
                simp only [Act.put, sbA, sbB, sbC]
                refine held_tk 46 ?_ (fun wq hSq => ?_) hHeld11 ?_
                rotate_left
                ·(try dsimp only at hSq); go_simp; try with_reducible rfl
                simp only [Act.put, sbA, sbB, sbC]
                refine held_tk 47 ?_ (fun wq hSq => ?_) hHeld11 ?_
                rotate_left
                ·(try dsimp only at hSq); go_simp; try with_reducible rfl
                simp only [Act.put, sbA, sbB, sbC]
                refine held_tk 48 ?_ (fun wq hSq => ?_) hHeld11 ?_
                rotate_left
                ·(try dsimp only at hSq); go_simp; try with_reducible rfl
                simp only [Act.put, sbA, sbB, sbC]
                refine held_tk 49 ?_ (fun wq hSq => ?_) hHeld11 ?_
                rotate_left
                ·(try dsimp only at hSq); go_simp; try with_reducible rfl
                simp only [Act.put, sbA, sbB, sbC]
                refine held_tk 50 ?_ (fun wq hSq => ?_) hHeld11 ?_
                rotate_left
                ·(try dsimp only at hSq); go_simp; try with_reducible rfl
                simp only [Act.put, sbA, sbB, sbC]
                refine held_take (i := 51) (v := jval r10) rfl (by kernel_rfl) (by kernel_rfl) (by kernel_rfl) (fun _ _ _ h => h) (by rfl) (fun wq hSq => exec_loadJ _ rfl rfl r10 hSq.2.2.1) hHeld11 ?_
                simp only [Act.put, sbA, sbB, sbC]
                refine held_step (i := 52) (by kernel_rfl) rfl (by rfl) (fun K hK => ?_)
                go_simp
                as_aux_lemma =>
                 refine (checkJ_calls (r1 := r10) HJ19.out HE.out.tab HE.out.utf w10z (Below.refl _ _) (by rw [HR10.out]; exact sz_a _ (by omega))).mono ?_
                 rintro e w12z ⟨rfl, hb⟩
                 rw [HR10.out, chk_a 1048574 (by omega)]
                 replace HE := Lib.hid (HE.out.below hb (Nat.le_refl _))
                 replace HV3 := Lib.hid (HV3.out.below hb)
                 replace HV77 := Lib.hid (HV77.out.below hb)
                 replace HV19 := Lib.hid (HV19.out.below hb)
                 replace HV18 := Lib.hid (HV18.out.below hb)
                 replace HD := Lib.hid (HD.out.below hb)
                 replace HJ3 := Lib.hid (HJ3.out.bel hb)
                 replace HJ77 := Lib.hid (HJ77.out.bel hb)
                 replace HJ19 := Lib.hid (HJ19.out.bel hb)
                 replace HJ14 := Lib.hid (HJ14.out.bel hb)
                 replace HB := Lib.hid (HB.out.trans (hb.mono HB.out.size))
                 clear hb
                 have hS12 : (fun wq => RowAt wq g3 (jcells r2) ∧ RowAt wq g7 (jcells r7) ∧ RowAt wq g10 (jcells r10) ∧ RowAt wq g14 (jcells r14) ∧ BytS wq (.slice (some ⟨g1, 1, none⟩) 128 129) D ∧ wq.cell? ⟨g10, 5, none⟩ = some (.string ⟨T.toArray⟩)) w12z := ⟨HV3.out, HV77.out, HV19.out, HV18.out, HD.out, HC5.out _ HV19.out⟩
                 refine hK.out _ _ hS12 (fun hHeld12 => ?_)
                 clear hK K hHeld11
                 refine held_step (i := 53) (by kernel_rfl) rfl (by rfl) (fun K hK => ?_)
                 go_simp
                 refine (num_calls _ w12z).mono ?_
                 rintro e wq9 ⟨rfl, rfl⟩
                 have hS13 : (fun wq => RowAt wq g3 (jcells r2) ∧ RowAt wq g7 (jcells r7) ∧ RowAt wq g10 (jcells r10) ∧ RowAt wq g14 (jcells r14) ∧ BytS wq (.slice (some ⟨g1, 1, none⟩) 128 129) D ∧ wq.cell? ⟨g10, 5, none⟩ = some (.string ⟨T.toArray⟩)) w12z := ⟨HV3.out, HV77.out, HV19.out, HV18.out, HD.out, HC5.out _ HV19.out⟩
                 refine hK.out _ _ hS13 (fun hHeld13 => ?_)
                 clear hK K hHeld12
                 refine held_tk 54 ?_ (fun wq hSq => ?_) hHeld13 ?_
                 rotate_left
                 ·(try dsimp only at hSq); go_simp; try with_reducible rfl
                 simp only [Act.put, sbA, sbB, sbC]
                 refine held_tk 55 ?_ (fun wq hSq => ?_) hHeld13 ?_
                 rotate_left
                 ·(try dsimp only at hSq); go_simp; try with_reducible rfl
                 simp only [Act.put, sbA, sbB, sbC]
                 refine held_tk 56 ?_ (fun wq hSq => ?_) hHeld13 ?_
                 rotate_left
                 ·(try dsimp only at hSq); go_simp; try with_reducible rfl
                 simp only [Act.put, sbA, sbB, sbC]
                 refine held_tk 57 ?_ (fun wq hSq => ?_) hHeld13 ?_
                 rotate_left
                 ·(try dsimp only at hSq); go_simp; try with_reducible rfl
                 simp only [Act.put, sbA, sbB, sbC]
                 refine held_step (i := 58) (by kernel_rfl) rfl (by rfl) (fun K hK => ?_)
                 go_simp
                 refine (num_calls _ w12z).mono ?_
                 rintro e wq9 ⟨rfl, rfl⟩
                 have hS14 : (fun wq => RowAt wq g3 (jcells r2) ∧ RowAt wq g7 (jcells r7) ∧ RowAt wq g10 (jcells r10) ∧ RowAt wq g14 (jcells r14) ∧ BytS wq (.slice (some ⟨g1, 1, none⟩) 128 129) D ∧ wq.cell? ⟨g10, 5, none⟩ = some (.string ⟨T.toArray⟩)) w12z := ⟨HV3.out, HV77.out, HV19.out, HV18.out, HD.out, HC5.out _ HV19.out⟩
                 refine hK.out _ _ hS14 (fun hHeld14 => ?_)
                 clear hK K hHeld13
                 refine held_tk 59 ?_ (fun wq hSq => ?_) hHeld14 ?_
                 rotate_left
                 ·(try dsimp only at hSq); go_simp; try with_reducible rfl
                 simp only [Act.put, sbA, sbB, sbC]
                 refine held_tk 60 ?_ (fun wq hSq => ?_) hHeld14 ?_
                 rotate_left
                 ·(try dsimp only at hSq); go_simp; try with_reducible rfl
                 simp only [Act.put, sbA, sbB, sbC]
                 refine held_tk 61 ?_ (fun wq hSq => ?_) hHeld14 ?_
                 rotate_left
                 ·(try dsimp only at hSq); go_simp; try with_reducible rfl
                 simp only [Act.put, sbA, sbB, sbC]
                 refine held_take (i := 62) (v := jval r14) rfl (by kernel_rfl) (by kernel_rfl) (by kernel_rfl) (fun _ _ _ h => h) (by rfl) (fun wq hSq => exec_loadJ _ rfl rfl r14 hSq.2.2.2.1) hHeld14 ?_
                 simp only [Act.put, sbA, sbB, sbC]
                 refine held_step (i := 63) (by kernel_rfl) rfl (by rfl) (fun K hK => ?_)
                 go_simp
                 refine (checkJ_calls (r1 := r14) HJ14.out HE.out.tab HE.out.utf w12z (Below.refl _ _) (by rw [HR14.out]; exact sz_a _ (by omega))).mono ?_
                 rintro e w15z ⟨rfl, hb⟩
                 rw [HR14.out, chk_big 1048575 (by omega)]
                 replace HE := Lib.hid (HE.out.below hb (Nat.le_refl _))
                 replace HV3 := Lib.hid (HV3.out.below hb)
                 replace HV77 := Lib.hid (HV77.out.below hb)
                 replace HV19 := Lib.hid (HV19.out.below hb)
                 replace HV18 := Lib.hid (HV18.out.below hb)
                 replace HD := Lib.hid (HD.out.below hb)
                 replace HJ3 := Lib.hid (HJ3.out.bel hb)
                 replace HJ77 := Lib.hid (HJ77.out.bel hb)
                 replace HJ19 := Lib.hid (HJ19.out.bel hb)
                 replace HJ14 := Lib.hid (HJ14.out.bel hb)
                 replace HB := Lib.hid (HB.out.trans (hb.mono HB.out.size))
                 clear hb
                 have hS15 : (fun wq => RowAt wq g3 (jcells r2) ∧ RowAt wq g7 (jcells r7) ∧ RowAt wq g10 (jcells r10) ∧ RowAt wq g14 (jcells r14) ∧ BytS wq (.slice (some ⟨g1, 1, none⟩) 128 129) D ∧ wq.cell? ⟨g10, 5, none⟩ = some (.string ⟨T.toArray⟩)) w15z := ⟨HV3.out, HV77.out, HV19.out, HV18.out, HD.out, HC5.out _ HV19.out⟩
                 refine hK.out _ _ hS15 (fun hHeld15 => ?_)
                 clear hK K hHeld14
                 refine held_step (i := 64) (by kernel_rfl) rfl (by rfl) (fun K hK => ?_)
                 go_simp
                 refine (num_calls _ w15z).mono ?_
                 rintro e wq9 ⟨rfl, rfl⟩
                 have hS16 : (fun wq => RowAt wq g3 (jcells r2) ∧ RowAt wq g7 (jcells r7) ∧ RowAt wq g10 (jcells r10) ∧ RowAt wq g14 (jcells r14) ∧ BytS wq (.slice (some ⟨g1, 1, none⟩) 128 129) D ∧ wq.cell? ⟨g10, 5, none⟩ = some (.string ⟨T.toArray⟩)) w15z := ⟨HV3.out, HV77.out, HV19.out, HV18.out, HD.out, HC5.out _ HV19.out⟩
                 refine hK.out _ _ hS16 (fun hHeld16 => ?_)
                 clear hK K hHeld15
                 refine held_tk 65 ?_ (fun wq hSq => ?_) hHeld16 ?_
                 rotate_left
                 ·(try dsimp only at hSq); go_simp; try with_reducible rfl
                 simp only [Act.put, sbA, sbB, sbC]
                 refine held_tk 66 ?_ (fun wq hSq => ?_) hHeld16 ?_
                 rotate_left
                 ·(try dsimp only at hSq); go_simp; try with_reducible rfl
                 simp only [Act.put, sbA, sbB, sbC]
                 refine held_tk 67 ?_ (fun wq hSq => ?_) hHeld16 ?_
                 rotate_left
                 ·(try dsimp only at hSq); go_simp; try with_reducible rfl
                 simp only [Act.put, sbA, sbB, sbC]
                 refine held_take (i := 68) (v := jval r14) rfl (by kernel_rfl) (by kernel_rfl) (by kernel_rfl) (fun _ _ _ h => h) (by rfl) (fun wq hSq => exec_loadJ _ rfl rfl r14 hSq.2.2.2.1) hHeld16 ?_
                 simp only [Act.put, sbA, sbB, sbC]
                 refine held_step (i := 69) (by kernel_rfl) rfl (by rfl) (fun K hK => ?_)
                 go_simp
                 as_aux_lemma =>
                  refine (printJ_calls (r1 := r14) HJ14.out HE.out.tab HE.out.utf w15z (Below.refl _ _) (by rw [HR14.out]; exact sz_a _ (by omega))).mono ?_
                  rintro e w17z ⟨pv, rfl, hF, hb⟩
                  rw [HR14.out, prn_big 1048575 (by omega)] at hF
                  obtain ⟨ps, cs, rfl⟩ := hF.slice
                  have hcv := hF.string
                  clear hF
                  replace HE := Lib.hid (HE.out.below hb (Nat.le_refl _))
                  replace HV3 := Lib.hid (HV3.out.below hb)
                  replace HV77 := Lib.hid (HV77.out.below hb)
                  replace HV19 := Lib.hid (HV19.out.below hb)
                  replace HV18 := Lib.hid (HV18.out.below hb)
                  replace HD := Lib.hid (HD.out.below hb)
                  replace HJ3 := Lib.hid (HJ3.out.bel hb)
                  replace HJ77 := Lib.hid (HJ77.out.bel hb)
                  replace HJ19 := Lib.hid (HJ19.out.bel hb)
                  replace HJ14 := Lib.hid (HJ14.out.bel hb)
                  replace HB := Lib.hid (HB.out.trans (hb.mono HB.out.size))
                  clear hb
                  have hS17 : (fun wq => RowAt wq g3 (jcells r2) ∧ RowAt wq g7 (jcells r7) ∧ RowAt wq g10 (jcells r10) ∧ RowAt wq g14 (jcells r14) ∧ BytS wq (.slice (some ⟨g1, 1, none⟩) 128 129) D ∧ wq.cell? ⟨g10, 5, none⟩ = some (.string ⟨T.toArray⟩)) w17z := ⟨HV3.out, HV77.out, HV19.out, HV18.out, HD.out, HC5.out _ HV19.out⟩
                  refine hK.out _ _ hS17 (fun hHeld17 => ?_)
                  clear hK K hHeld16
                  refine held_tk 70 ?_ (fun wq hSq => ?_) hHeld17 ?_
                  rotate_left
                  ·(try dsimp only at hSq); go_simp; try with_reducible rfl
                  simp only [Act.put, sbA, sbB, sbC]
                  refine held_tk 71 ?_ (fun wq hSq => ?_) hHeld17 ?_
                  rotate_left
                  ·(try dsimp only at hSq); go_simp; try with_reducible rfl
                  simp only [Act.put, sbA, sbB, sbC]
                  refine held_tk 72 ?_ (fun wq hSq => ?_) hHeld17 ?_
                  rotate_left
                  ·(try dsimp only at hSq); go_simp; try with_reducible rfl
                  simp only [Act.put, sbA, sbB, sbC]
                  refine held_tk 73 ?_ (fun wq hSq => ?_) hHeld17 ?_
                  rotate_left
                  ·(try dsimp only at hSq); go_simp; try with_reducible rfl
                  simp only [Act.put, sbA, sbB, sbC]
                  refine held_tk 74 ?_ (fun wq hSq => ?_) hHeld17 ?_
                  rotate_left
                  ·(try dsimp only at hSq); go_simp; try with_reducible rfl
                  simp only [Act.put, sbA, sbB, sbC]
                  refine held_tk 75 ?_ (fun wq hSq => ?_) hHeld17 ?_
                  rotate_left
                  ·(try dsimp only at hSq); go_simp; try with_reducible rfl
                  simp only [Act.put, sbA, sbB, sbC]
                  refine held_tk 76 ?_ (fun wq hSq => ?_) hHeld17 ?_
                  rotate_left
                  ·(try dsimp only at hSq); go_simp; try with_reducible rfl
                  simp only [Act.put, sbA, sbB, sbC]
                  refine held_tk 77 ?_ (fun wq hSq => ?_) hHeld17 ?_
                  rotate_left
                  ·(try dsimp only at hSq); go_simp; try with_reducible rfl
                  simp only [Act.put, sbA, sbB, sbC]
                  refine held_tk 78 ?_ (fun wq hSq => ?_) hHeld17 ?_
                  rotate_left
                  ·(try dsimp only at hSq); go_simp; try with_reducible rfl
                  simp only [Act.put, sbA, sbB, sbC]
                  refine held_tk 79 ?_ (fun wq hSq => ?_) hHeld17 ?_
                  rotate_left
                  ·(try dsimp only at hSq); go_simp; try with_reducible rfl
                  simp only [Act.put, sbA, sbB, sbC]
                  refine held_step (i := 80) (by kernel_rfl) rfl (by rfl) (fun K hK => ?_)
                  go_simp
                  refine (num_calls _ w17z).mono ?_
                  rintro e wq9 ⟨rfl, rfl⟩
                  have hS18 : (fun wq => RowAt wq g3 (jcells r2) ∧ RowAt wq g7 (jcells r7) ∧ RowAt wq g10 (jcells r10) ∧ RowAt wq g14 (jcells r14) ∧ BytS wq (.slice (some ⟨g1, 1, none⟩) 128 129) D ∧ wq.cell? ⟨g10, 5, none⟩ = some (.string ⟨T.toArray⟩)) w17z := ⟨HV3.out, HV77.out, HV19.out, HV18.out, HD.out, HC5.out _ HV19.out⟩
                  refine hK.out _ _ hS18 (fun hHeld18 => ?_)
                  clear hK K hHeld17
                  refine held_tk 81 ?_ (fun wq hSq => ?_) hHeld18 ?_
                  rotate_left
                  ·(try dsimp only at hSq); go_simp; try with_reducible rfl
                  simp only [Act.put, sbA, sbB, sbC]
                  refine held_tk 82 ?_ (fun wq hSq => ?_) hHeld18 ?_
                  rotate_left
                  ·(try dsimp only at hSq); go_simp; try with_reducible rfl
                  simp only [Act.put, sbA, sbB, sbC]
                  refine held_tk 83 ?_ (fun wq hSq => ?_) hHeld18 ?_
                  rotate_left
                  ·(try dsimp only at hSq); go_simp; try with_reducible rfl
                  simp only [Act.put, sbA, sbB, sbC]
                  refine held_tk 84 ?_ (fun wq hSq => ?_) hHeld18 ?_
                  rotate_left
                  ·(try dsimp only at hSq); go_simp; try with_reducible rfl
                  simp only [Act.put, sbA, sbB, sbC]
                  refine held_step (i := 85) (by kernel_rfl) rfl (by rfl) (fun K hK => ?_)
                  go_simp
                  refine (num_calls _ w17z).mono ?_
                  rintro e wq9 ⟨rfl, rfl⟩
                  have hS19 : (fun wq => RowAt wq g3 (jcells r2) ∧ RowAt wq g7 (jcells r7) ∧ RowAt wq g10 (jcells r10) ∧ RowAt wq g14 (jcells r14) ∧ BytS wq (.slice (some ⟨g1, 1, none⟩) 128 129) D ∧ wq.cell? ⟨g10, 5, none⟩ = some (.string ⟨T.toArray⟩)) w17z := ⟨HV3.out, HV77.out, HV19.out, HV18.out, HD.out, HC5.out _ HV19.out⟩
                  refine hK.out _ _ hS19 (fun hHeld19 => ?_)
                  clear hK K hHeld18
                  refine held_tk 86 ?_ (fun wq hSq => ?_) hHeld19 ?_
                  rotate_left
                  ·(try dsimp only at hSq); go_simp; try with_reducible rfl
                  simp only [Act.put, sbA, sbB, sbC]
                  refine held_tk 87 ?_ (fun wq hSq => ?_) hHeld19 ?_
                  rotate_left
                  ·(try dsimp only at hSq); go_simp; try with_reducible rfl
                  simp only [Act.put, sbA, sbB, sbC]
                  refine held_tk 88 ?_ (fun wq hSq => ?_) hHeld19 ?_
                  rotate_left
                  ·(try dsimp only at hSq); go_simp; try with_reducible rfl
                  simp only [Act.put, sbA, sbB, sbC]
                  refine held_step (i := 89) (by kernel_rfl) rfl (by rfl) (fun K hK => ?_)
                  go_simp
                  refine (works_calls w17z HE.out).mono ?_
                  rintro e w20z ⟨rfl, hb⟩
                  replace HE := Lib.hid (HE.out.below hb (Nat.le_refl _))
                  replace HV3 := Lib.hid (HV3.out.below hb)
                  replace HV77 := Lib.hid (HV77.out.below hb)
                  replace HV19 := Lib.hid (HV19.out.below hb)
                  replace HV18 := Lib.hid (HV18.out.below hb)
                  replace HD := Lib.hid (HD.out.below hb)
                  replace HJ3 := Lib.hid (HJ3.out.bel hb)
                  replace HJ77 := Lib.hid (HJ77.out.bel hb)
                  replace HJ19 := Lib.hid (HJ19.out.bel hb)
                  replace HJ14 := Lib.hid (HJ14.out.bel hb)
                  replace HB := Lib.hid (HB.out.trans (hb.mono HB.out.size))
                  clear hb
                  have hS20 : (fun wq => RowAt wq g3 (jcells r2) ∧ RowAt wq g7 (jcells r7) ∧ RowAt wq g10 (jcells r10) ∧ RowAt wq g14 (jcells r14) ∧ BytS wq (.slice (some ⟨g1, 1, none⟩) 128 129) D ∧ wq.cell? ⟨g10, 5, none⟩ = some (.string ⟨T.toArray⟩)) w20z := ⟨HV3.out, HV77.out, HV19.out, HV18.out, HD.out, HC5.out _ HV19.out⟩
                  refine hK.out _ _ hS20 (fun hHeld20 => ?_)
                  clear hK K hHeld19
                  refine held_tk 90 ?_ (fun wq hSq => ?_) hHeld20 ?_
                  rotate_left
                  ·(try dsimp only at hSq); go_simp; try with_reducible rfl
                  simp only [Act.put, sbA, sbB, sbC]
                  refine held_tk 91 ?_ (fun wq hSq => ?_) hHeld20 ?_
                  rotate_left
                  ·(try dsimp only at hSq); go_simp; try with_reducible rfl
                  simp only [Act.put, List.setIfInBounds_toArray, List.set_cons_zero]
                  refine wpAnyH_done (by kernel_rfl) ?_ _
                  clear hHeld20
                  go_wp2_with fail
                  go_ret
                  exact ⟨rfl, HB.out⟩
end Go.Proofs.YtfclfaidmipjpaaGreatDoor
