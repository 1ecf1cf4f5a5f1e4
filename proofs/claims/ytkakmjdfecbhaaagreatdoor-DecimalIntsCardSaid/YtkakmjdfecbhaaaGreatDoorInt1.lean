/- The walk of decimal.Int: over any world whose variable ErrRange holds an error. Printed by gen_ints.py. -/
import Derived.Test.YtkakmjdfecbhaaaGreatDoorLaw2
import Derived.Test.YtkakmjdfecbhaaaGreatDoorEql
import Derived.Test.YtkakmjdfecbhaaaGreatDoorRef5
import Derived.Test.YtkakmjdfecbhaaaGreatDoorIntL
import Derived.Lib.SmallJoins
namespace Go.Proofs.YtkakmjdfecbhaaaGreatDoor
open Go.RowKit

theorem var_below {P : Program} {B g : Nat} {W W' : World} {n : String} {cs : Array Value} (h : Below B W W') (hg : P.globalNamed n = some g) (hgB : g < B) (hv : W.var? P n = some cs) : W'.var? P n = some cs := by
  unfold World.var? at hv ⊢
  simp only [hg, Option.bind_some] at hv ⊢
  rw [h.block g hgB]
  exact hv
theorem gRange : Tryz.prog.globalNamed "strconv.ErrRange" = some 2 := by kernel_rfl
/-- The library's variable ErrRange holds an error. -/
def RangeV (w : World) : Prop := 2 < w.heap.size ∧ ∃ tp p, w.var? Tryz.prog "strconv.ErrRange" = some #[.iface tp p]
theorem RangeV.below {w w' : World} (h : RangeV w) (hb : Below w.heap.size w w') : RangeV w' := by
  obtain ⟨h1, tp, p, h2⟩ := h
  exact ⟨Nat.lt_of_lt_of_le h1 hb.size, tp, p, var_below hb gRange h1 h2⟩
theorem bytes_app (a b : List UInt8) : ((⟨a.toArray⟩ : ByteArray) ++ ⟨b.toArray⟩) = ⟨(a ++ b).toArray⟩ := bytes_eq (by simp [ByteArray.data_append])
theorem intR_false {d : Dec} (h : (intR d).2 = false) : (intR d).1 = 0 := by
  unfold intR at h ⊢
  split at h
  · cases h
  · rename_i hn; rw [if_neg hn]
theorem tenS_nil {d : Dec} (h : mayB d = true) (hn : tenS d = []) : intR d = (0, true) := (intR_nil h (by unfold tenS at hn; simpa using (List.append_eq_nil_iff.1 hn).1)).1
theorem tenS_cons {d : Dec} (h : mayB d = true) {c : UInt8} {t : List UInt8} (hn : tenS d = c :: t) : d.digits ≠ [] := by
  intro he
  have := (intR_nil h he).2
  unfold tenS at hn
  rw [he, this] at hn
  cases hn
theorem tenS_neg {d : Dec} (h : mayB d = true) (hn : d.neg = true) : d.digits ≠ [] := fun he => by rw [may_nil h he] at hn; cases hn
theorem tenS_len {d : Dec} : (tenS d).length = d.digits.length + d.exp.toNat := by simp [tenS]

set_option maxHeartbeats 2000000 in
set_option maxRecDepth 100000 in
theorem int_calls (w : World) (d : Dec) (hd : d.digits.length ≤ 10000000000) (hv : RangeV w) :
    Calls Tryz.prog 22 #[.agg #[.bool d.neg, .string ⟨d.digits.toArray⟩, .int .i64 d.exp]] w fun e w' => e = .returned (.tuple #[.int .i64 (intR d).1, .bool (intR d).2]) ∧ Below w.heap.size w w' := by
  have h1 := DecAt.at w d _ rfl
  have hbel : Below w.heap.size w (w.alloc (Obj.cells #[Value.bool d.neg, Value.string { data := d.digits.toArray }, Value.int IntKind.i64 d.exp] 24)) := (Below.refl _ _).alloc (Nat.le_refl _) _
  have H1 := Lib.hid h1
  have Hv1 := Lib.hid (hv.below hbel)
  have c0 := h1.c0
  have c1 := h1.c1
  have c2 := h1.c2
  clear h1 hv
  go_enter Tryz.func22, Tryz.ntmps22
  go_wp2_with fail
  generalize w.alloc (Obj.cells #[Value.bool d.neg, Value.string { data := d.digits.toArray }, Value.int IntKind.i64 d.exp] 24) = w1 at *
  clear c0 c1 c2
  refine (whole_calls _ d hd).mono ?_
  rintro e w2 ⟨rfl, hb2⟩
  have H2 := Lib.hid (H1.out.under hb2)
  have Hv2 := Lib.hid (Hv1.out.below hb2)
  have hbel2 := hbel.trans (hb2.mono hbel.size)
  clear hb2 hbel H1 Hv1
  have c0 := H2.out.c0
  have c1 := H2.out.c1
  have c2 := H2.out.c2
  by_cases hw : mayB d = true ∧ 0 ≤ d.exp
  · obtain ⟨hm, he⟩ := hw
    have hwb : (mayB d && decide (0 ≤ d.exp)) = true := by rw [hm, decide_eq_true he]; rfl
    rw [hwb]
    clear hwb
    obtain ⟨hdg, hdl, he1, he2⟩ := may_bounds hm
    by_cases h19 : 19 < (d.digits.length : Int) + d.exp
    · have HR := Lib.hid (intR_big hm he h19)
      clear hm hdg
      go_wp2_with fail
      go_ret2
      exact ⟨by rw [HR.out]; rfl, hbel2⟩
    · have hen : d.exp = (d.exp.toNat : Int) := by omega
      have Hen := Lib.hid hen
      have htl := tenS_len (d := d)
      have Htl := Lib.hid htl
      have Hm := Lib.hid hm
      have hen21 : d.exp.toNat ≤ 19 := by omega
      have hlen : (tenS d).length ≤ 19 := by omega
      have hst : ¬ 9223372036854775807 < d.digits.length + d.exp.toNat := by omega
      have hst2 : ¬ 9223372036854775807 < 1 + (tenS d).length := by omega
      have Hp : Hid (d.digits ≠ [] → Lib.parseIntB 64 ((if d.neg then [45] else []) ++ tenS d) = if (intR d).2 = true then .ok (intR d).1 else .range) := parse_fits hm he (by omega)
      have Hnil : Hid (tenS d = [] → intR d = (0, true)) := tenS_nil hm
      have Hcons : Hid (∀ c t, tenS d = c :: t → d.digits ≠ []) := fun c t => tenS_cons hm
      have Hneg : Hid (d.neg = true → d.digits ≠ []) := tenS_neg hm
      have Hrf : Hid ((intR d).2 = false → (intR d).1 = 0) := intR_false
      clear hm hen htl hdg
      go_upto_region 3 with fail
      have hS0 : (fun w' => w'.cell? ⟨w.heap.size, 0, none⟩ = some (.bool d.neg) ∧ w'.cell? ⟨w.heap.size, 1, none⟩ = some (.string ⟨d.digits.toArray⟩) ∧ w'.cell? ⟨w.heap.size, 2, none⟩ = some (.int .i64 d.exp)) w2.drew := ⟨H2.out.drew.c0, H2.out.drew.c1, H2.out.drew.c2⟩
      refine wp_region_held_drew (S := (fun w' => w'.cell? ⟨w.heap.size, 0, none⟩ = some (.bool d.neg) ∧ w'.cell? ⟨w.heap.size, 1, none⟩ = some (.string ⟨d.digits.toArray⟩) ∧ w'.cell? ⟨w.heap.size, 2, none⟩ = some (.int .i64 d.exp))) (by kernel_rfl) hS0 (fun hHeld0 => ?_)
      refine held_take (i := 0) (v := ?_) rfl (by kernel_rfl) (by kernel_rfl) (by kernel_rfl) (fun _ _ _ h => h) (by rfl) (fun wq hSq => ?_) hHeld0 ?_
      rotate_left
      · (try dsimp only at hSq); go_simp; try with_reducible rfl
      simp only [Act.put, List.setIfInBounds_toArray, List.set_cons_zero, List.set_cons_succ]
      refine held_take (i := 1) (v := ?_) rfl (by kernel_rfl) (by kernel_rfl) (by kernel_rfl) (fun _ _ _ h => h) (by rfl) (fun wq hSq => ?_) hHeld0 ?_
      rotate_left
      · (try dsimp only at hSq); go_simp; try with_reducible rfl
      simp only [Act.put, List.setIfInBounds_toArray, List.set_cons_zero, List.set_cons_succ]
      refine held_take (i := 2) (v := ?_) rfl (by kernel_rfl) (by kernel_rfl) (by kernel_rfl) (fun _ _ _ h => h) (by rfl) (fun wq hSq => ?_) hHeld0 ?_
      rotate_left
      · (try dsimp only at hSq); go_simp; try with_reducible rfl
      simp only [Act.put, List.setIfInBounds_toArray, List.set_cons_zero, List.set_cons_succ]
      refine held_take (i := 3) (v := ?_) rfl (by kernel_rfl) (by kernel_rfl) (by kernel_rfl) (fun _ _ _ h => h) (by rfl) (fun wq hSq => ?_) hHeld0 ?_
      rotate_left
      · (try dsimp only at hSq); go_simp; try with_reducible rfl
      simp only [Act.put, List.setIfInBounds_toArray, List.set_cons_zero, List.set_cons_succ]
      refine held_step (i := 4) (by kernel_rfl) rfl (by rfl) (fun K hK => ?_)
      go_simp
      rw [Hen.out]
      refine (Tryz.strings_Repeat ⟨#[48]⟩ d.exp.toNat _ (by omega) (by rw [show (⟨#[48]⟩ : ByteArray).size = 1 from rfl]; omega)).mono ?_
      rintro e w4 ⟨rfl, hb4⟩
      dsimp only
      rw [repeat_eq]
      have H4 := Lib.hid (DecAt.under (d := d) (b := w.heap.size) H2.out.drew hb4)
      have Hv4 := Lib.hid (RangeV.below (Hv2.out.below (Below.refl _ _).drew) hb4)
      have hbel4 := hbel2.drew.trans (hb4.mono hbel2.size)
      clear hb4
      refine hK.out _ _ ⟨H4.out.c0, H4.out.c1, H4.out.c2⟩ (fun hHeld1 => ?_)
      clear hK K hHeld0
      refine held_take (i := 5) (v := ?_) rfl (by kernel_rfl) (by kernel_rfl) (by kernel_rfl) (fun _ _ _ h => h) (by rfl) (fun wq hSq => ?_) hHeld1 ?_
      rotate_left
      · (try dsimp only at hSq); go_simp; try with_reducible rfl
      simp only [Act.put, List.setIfInBounds_toArray, List.set_cons_zero, List.set_cons_succ]
      refine held_take (i := 6) (v := ?_) rfl (by kernel_rfl) (by kernel_rfl) (by kernel_rfl) (fun _ _ _ h => h) (by rfl) (fun wq hSq => ?_) hHeld1 ?_
      rotate_left
      · (try dsimp only at hSq); go_simp; try with_reducible rfl
      simp only [Act.put, List.setIfInBounds_toArray, List.set_cons_zero, List.set_cons_succ]
      refine wpAnyH_done (by kernel_rfl) ?_ _
      clear hHeld1
      clear c0 c1 c2 hS0 H2 Hv2 hbel2
      rw [bytes_app, Array.toList_replicate, show d.digits ++ List.replicate d.exp.toNat 48 = tenS d from rfl]
      have c0 := H4.out.c0
      clear H4 Hen Htl hst hen21
      generalize tenS d = s at *
      generalize hr : intR d = r at *
      have HR := Lib.hid hr
      clear hr
      obtain ⟨z, ok⟩ := r
      simp only at *
      obtain ⟨tp, pv, hvar⟩ := Hv4.out.2
      have Hvar := Lib.hid hvar
      clear hvar Hv4
      by_cases hn : d.neg = true
      · have hp2 := Hp.out (Hneg.out hn)
        rw [hn] at hp2 c0
        have Hpp : Hid (Lib.parseIntB 64 (45 :: s) = if ok = true then .ok z else .range) := hp2
        clear hp2 hn Hp Hnil Hcons Hneg
        go_upto_region 6 with fail
        rw [show ((⟨#[45]⟩ : ByteArray) ++ ⟨s.toArray⟩) = ⟨(45 :: s).toArray⟩ from bytes_app [45] s]
        go_wp2_with fail
        cases ok with
        | true =>
          refine (Tryz.strconv_ParseInt_10_at64_ok ⟨(45 :: s).toArray⟩ (by simp [ByteArray.size]; omega) z Hpp.out _).mono ?_
          rintro e w5 ⟨rfl, hw5⟩
          have hb5 : Below w4.heap.size w4 w5 := by
            rcases hw5 with rfl | ⟨t5, rfl⟩
            · exact Below.refl _ _
            · exact Joins.below_bytesWorld _ _ _ _ (Nat.le_refl _)
          have hbf := hbel4.trans (hb5.mono hbel4.size)
          clear hw5 hb5 hbel4
          go_wp2_with fail
          go_ret2
          exact ⟨by rw [HR.out]; rfl, hbf⟩
        | false =>
          have hz := Hrf.out rfl
          subst hz
          refine (Tryz.strconv_ParseInt_10_at64_range_var ⟨(45 :: s).toArray⟩ (by simp [ByteArray.size]; omega) Hpp.out tp pv _ Hvar.out).mono ?_
          rintro e w5 ⟨N5, rfl, -, -, hb5⟩
          have hbf := hbel4.trans (hb5.mono hbel4.size)
          clear hb5 hbel4
          go_wp2_with fail
          go_ret2
          exact ⟨by rw [HR.out]; rfl, hbf⟩
      · have hn2 : d.neg = false := by simpa using hn
        clear hn
        rw [hn2] at c0
        cases s with
        | nil =>
          obtain ⟨rfl, rfl⟩ := Prod.mk.inj (Hnil.out rfl)
          clear Hp Hnil Hcons Hneg Hrf
          go_wp2_with fail
          go_ret2
          exact ⟨by rw [HR.out]; rfl, hbel4⟩
        | cons c t =>
          simp only [List.length_cons] at hlen hst2
          have hp2 := Hp.out (Hcons.out c t rfl)
          rw [hn2] at hp2
          have Hpp : Hid (Lib.parseIntB 64 (c :: t) = if ok = true then .ok z else .range) := hp2
          clear hp2 hn2 Hp Hnil Hcons Hneg
          go_wp2_with fail
          cases ok with
          | true =>
            refine (Tryz.strconv_ParseInt_10_at64_ok ⟨(c :: t).toArray⟩ (by simp [ByteArray.size]; omega) z Hpp.out _).mono ?_
            rintro e w5 ⟨rfl, hw5⟩
            have hb5 : Below w4.heap.size w4 w5 := by
              rcases hw5 with rfl | ⟨t5, rfl⟩
              · exact Below.refl _ _
              · exact Joins.below_bytesWorld _ _ _ _ (Nat.le_refl _)
            have hbf := hbel4.trans (hb5.mono hbel4.size)
            clear hw5 hb5 hbel4
            go_wp2_with fail
            go_ret2
            exact ⟨by rw [HR.out]; rfl, hbf⟩
          | false =>
            have hz := Hrf.out rfl
            subst hz
            refine (Tryz.strconv_ParseInt_10_at64_range_var ⟨(c :: t).toArray⟩ (by simp [ByteArray.size]; omega) Hpp.out tp pv _ Hvar.out).mono ?_
            rintro e w5 ⟨N5, rfl, -, -, hb5⟩
            have hbf := hbel4.trans (hb5.mono hbel4.size)
            clear hb5 hbel4
            go_wp2_with fail
            go_ret2
            exact ⟨by rw [HR.out]; rfl, hbf⟩
  · have hwb : (mayB d && decide (0 ≤ d.exp)) = false := by
      rw [Bool.and_eq_false_iff]
      by_cases hm : mayB d = true
      · exact .inr (decide_eq_false (fun h => hw ⟨hm, h⟩))
      · exact .inl (by simpa using hm)
    have hr : intR d = (0, false) := by
      unfold intR
      rw [if_neg (fun h => hw ⟨h.1, h.2.1⟩)]
    rw [hwb]
    have HR := Lib.hid hr
    clear hwb hw hr
    go_wp2_with fail
    go_ret2
    exact ⟨by rw [HR.out]; rfl, hbel2⟩
end Go.Proofs.YtkakmjdfecbhaaaGreatDoor
