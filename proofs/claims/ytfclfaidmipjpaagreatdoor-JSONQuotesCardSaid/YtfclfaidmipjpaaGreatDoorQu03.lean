/- JSONQuotes returns true at any bytes and leaves them as they were, in every world whose listed variables hold what the program text lays (the tied card). -/
import Derived.Test.YtfclfaidmipjpaaGreatDoorCo32
import Derived.Test.YtfclfaidmipjpaaGreatDoorQu02
namespace Go.Proofs.YtfclfaidmipjpaaGreatDoor
set_option maxRecDepth 100000
set_option maxHeartbeats 20000000
open Go.RowKit
theorem jquotes_calls (w : World) (he : EnvJ w) (s : List UInt8) : Calls Tryz.prog 6 #[.string ⟨s.toArray⟩] w fun e w' => e = .returned (.bool true) ∧ Below w.heap.size w w' := by
 have He := Lib.hid he
 clear he
 go_enter Tryz.func6, Tryz.ntmps6
 by_cases hl : 20000 < s.length
 ·
  have hli : (20000 : Int) < (s.length : Int) := by omega
  go_wp2_with fail
  have HB0 : Hid (Below w.heap.size w w) := Lib.hid (Below.refl _ _)
  refine (works_calls w (He.out.below HB0.out (Nat.le_refl _))).mono ?_
  rintro e wz ⟨rfl, hbz⟩
  have HBZ := Lib.hid (HB0.out.trans (hbz.mono HB0.out.size))
  clear hbz
  go_wp2_with fail
  go_ret
  exact ⟨rfl, HBZ.out⟩
 ·
  have hli : ¬ (20000 : Int) < (s.length : Int) := by omega
  go_wp2_with fail
  refine (quote_calls s w (by omega) He.out.utf).mono ?_
  rintro e w1 ⟨rfl, hb1⟩
  have HB1 := Lib.hid hb1
  clear hb1
  obtain ⟨bv, hbv⟩ : ∃ bv, Lib.validD s = bv := ⟨_, rfl⟩
  have HBV := Lib.hid hbv
  have HQR : Hid (quoR3 s = if bv = true then (quoT s, 0) else ([], 181)) := Lib.hid (by unfold quoR3; rw [if_neg (by omega), hbv])
  clear hbv
  cases bv with
  | false =>
   rw [show quoR3 s = ([], 181) from HQR.out]
   go_wp2_with fail
   refine (utf_calls w1 s (by omega)).mono ?_
   rintro e wq ⟨rfl, rfl⟩
   rw [HBV.out]
   go_wp2_with fail
   refine (num_calls _ w1).mono ?_
   rintro e wq ⟨rfl, rfl⟩
   go_wp2_with fail
   refine (works_calls w1 (He.out.below HB1.out (Nat.le_refl _))).mono ?_
   rintro e wz ⟨rfl, hbz⟩
   have HBZ := Lib.hid (HB1.out.trans (hbz.mono HB1.out.size))
   clear hbz
   go_wp2_with fail
   go_ret
   exact ⟨rfl, HBZ.out⟩
  | true =>
   rw [show quoR3 s = (quoT s, 0) from HQR.out]
   go_wp2_with fail
   refine (utf_calls w1 s (by omega)).mono ?_
   rintro e wq ⟨rfl, rfl⟩
   rw [HBV.out]
   have HQL : Hid ((quoT s).length ≤ 1000000) := Lib.hid (by have := quoT_len s; omega)
   obtain ⟨q, hq⟩ : ∃ q, quoT s = q := ⟨_, rfl⟩
   have HQ := Lib.hid hq
   rw [hq] at HQL ⊢
   clear hq
   obtain ⟨cq, hcv, hbq, hbw⟩ := BytS.ofString w1 q (by have := HQL.out; unfold maxLen; omega)
   have HBQ := Lib.hid hbq
   have HBW := Lib.hid (HB1.out.trans (hbw.mono HB1.out.size))
   clear hbq hbw
   go_wp2_with fail
   obtain ⟨w2, hw2⟩ : ∃ W, Lib.bytesWorld w1 5 ⟨q.toArray⟩ = W := ⟨_, rfl⟩
   rw [hw2] at HBQ HBW ⊢
   clear hw2 hcv
   refine (parseP_calls w2 _ q HBQ.out (He.out.below HBW.out (Nat.le_refl _)).utf).mono ?_
   rintro e w3 ⟨r, rfl, hr, hj, hb3⟩
   rw [show parseJ [] q = (.mk 3 false Dec.zero s [] [], 0) by rw [← HQ.out]; exact parse_quoT s (by omega) HBV.out] at hr ⊢
   have HR : Hid (r.1 = .mk 3 false Dec.zero s [] []) := Lib.hid hr
   have HSL := Lib.hid hj.slJ
   have HB3 := Lib.hid (HBW.out.trans (hb3.mono HBW.out.size))
   clear hr hj hb3
   go_upto_region 7 with (first | (refine wpList_allocJ rfl rfl ?_; intro wa hBx) | (refine wpList_storeJ rfl _ _ rfl rfl hBx.row rfl r HSL.out rfl rfl ?_; intro wS hSx))
   have HV := Lib.hid hSx.row
   have HB4 := Lib.hid (HB3.out.trans ((hSx.below hBx.be (Nat.le_refl _) hBx.be.size).mono HB3.out.size))
   clear hBx hSx
   have c0 : _ = some (Value.int .i64 3) := (HV.out.cell 0 _ rfl).trans (by rw [HR.out]; rfl)
   have c5 : _ = some (Value.string ⟨s.toArray⟩) := (HV.out.cell 5 _ rfl).trans (by rw [HR.out]; rfl)
   go_wp2_with fail
   refine (quoteR_calls wS s (by omega)).mono ?_
   rintro e w5 ⟨rfl, hb5⟩
   have c0b : w5.cell? ⟨w3.heap.size, 0, none⟩ = _ := (hb5.cell HV.out.lt).trans c0
   have c5b : w5.cell? ⟨w3.heap.size, 5, none⟩ = _ := (hb5.cell HV.out.lt).trans c5
   have HB5 := Lib.hid (HB4.out.trans (hb5.mono HB4.out.size))
   clear hb5 c0 c5
   rw [HQ.out]
   go_wp2_with fail
   refine (num_calls _ w5).mono ?_
   rintro e wq ⟨rfl, rfl⟩
   go_wp2_with fail
   refine (num_calls _ w5).mono ?_
   rintro e wq ⟨rfl, rfl⟩
   go_wp2_with fail
   refine (works_calls w5 (He.out.below HB5.out (Nat.le_refl _))).mono ?_
   rintro e wz ⟨rfl, hbz⟩
   have HBZ := Lib.hid (HB5.out.trans (hbz.mono HB5.out.size))
   clear hbz
   go_wp2_with fail
   go_ret
   exact ⟨rfl, HBZ.out⟩
open Go.ChangeShapes Go.WideShapes Go.ChangeAt Go.RowKit
open Go.ChangeMaps (open_string shut_string)
theorem jquotes_laid : Rows.jSONQuotesRow.laid = laidAll := by rfl
theorem jquotes_contract (H : Type) (enc : TypeId × Value → H) (W : World) (base : Nat) (args : Array Value) (ds gs : List (DataW H)) (before : List MemPlace)
  (hval : ∀ (j : Nat) t v, Tryz.f6.params[j]? = some t → args[j]? = some v → Value.okWide Tryz.prog W .any base t v)
  (hW : DataW.Whole enc Tryz.prog Tryz.f6.params.toList Rows.jSONQuotesSpec.vars false W args.toList ds gs before) (hL : laidMetH Tryz.prog laidAll W) (hsh : W.ShapedOpen Tryz.prog) :
  Calls Tryz.prog 6 args W fun e W' => ∃ v, e = .returned v ∧ Rows.jSONQuotesSpec.post enc Tryz.prog Tryz.f6 false true false false W args v W' := by
 have hW' := hW
 obtain ⟨p, q, hA0, hV, rfl, hfz, hnd⟩ := hW
 have hA : DataW.TrodAll enc Tryz.prog W 0 (fun _ => true) true Tryz.f6.params.toList args.toList ds p := hA0
 rw [Tryz.params6] at hA hval
 obtain ⟨v0, vs0, d0, ds0, p0, q0, hargs, rfl, rfl, h0, r0⟩ := trodAll_cons hA
 obtain ⟨rfl, rfl, rfl⟩ := trodAll_nil r0
 obtain rfl : args = #[v0] := by cases args; simp_all
 obtain ⟨rfl, rfl⟩ := trodVars_none hV
 obtain ⟨s0, rfl, rfl, rfl, hm0⟩ := open_string Tryz.underlying9 (hval 0 9 v0 rfl rfl) h0
 obtain ⟨l0, rfl⟩ : ∃ l : List UInt8, s0 = ⟨l.toArray⟩ := ⟨s0.data.toList, rfl⟩
 clear hA0
 refine (jquotes_calls W (env_of hL hsh) l0).mono fun e W' ⟨he, hb⟩ => ?_
 subst he
 exact ⟨_, rfl, _, _, _, [], _, [], hW', trodAll_cons_mk (shut_bool Tryz.underlying4 _) trodAll_mk0, trodAll_cons_mk (shut_string Tryz.underlying9 hm0) (trodAll_mk0), rfl, hb.frame _, fun h => by cases h⟩
def jquotesArgs : Array Value := #[.string .empty]
theorem jquotes_reads (os : Os) {H : Type} (enc : TypeId × Value → H) : ∃ places, DataW.whole enc Tryz.prog ((laidWorld os).forCall (fun _ _ => 0) ⟨#[], jquotesArgs, []⟩).memory Tryz.f6.params.toList Rows.jSONQuotesSpec.vars false jquotesArgs.toList 8 = some ([.lit (.string [])], [], places) :=
 ⟨[], by kernel_rfl⟩
theorem jquotes_lifted (os : Os) (started : os.Started) (H : Type) (enc : TypeId × Value → H) (F : Stop.Interp) :
  ReturnsInHanded {} Tryz.checked os 6 .any ((OpenSpec.ofChange Rows.jSONQuotesSpec).preRow enc Tryz.prog Tryz.f6 Rows.jSONQuotesRow.domain false Rows.jSONQuotesRow.laid) (((OpenSpec.ofChange Rows.jSONQuotesSpec).at F).post enc Tryz.prog Tryz.f6 false true false false) := by
 obtain ⟨places, hx⟩ := jquotes_reads os enc
 refine returnsInHanded_of_row (C := Tryz.checked) (s := OpenSpec.ofChange Rows.jSONQuotesSpec) frmOwn started (by kernel_rfl) Tryz.func6
  (witness_zip (enc := enc) (C := Tryz.checked) false (laidWorld os) jquotesArgs (laid_os os) (laid_shaped os _) (by kernel_rfl)
   (OpenSpec.preRow_of_cond 8 hx (by kernel_rfl) (fun k hk => by cases hk) (by kernel_rfl) (laid_met os _))) ?_
 intro W base args ds gs before hval hW _ _ _ hL hsh _
 exact jquotes_contract H enc W base args ds gs before hval hW hL hsh
theorem jquotes_in : (Rows.jSONQuotesRow.inPlace == Tryz.pinned.checked.prog.inPlace 6) = true := by kernel_rfl
theorem jquotes_un : (Rows.jSONQuotesRow.unfollowed == Tryz.pinned.checked.prog.unfollowed 6) = true := by kernel_rfl
theorem jquotes_re : (Rows.jSONQuotesRow.recurses == Tryz.pinned.checked.prog.recurses 6) = true := by kernel_rfl
theorem jquotes_na : (Rows.jSONQuotesRow.named == Tryz.pinned.checked.prog.varsNamed 6) = true := by kernel_rfl
theorem jquotes_facts : joinedFacts Tryz.pinned.checked.prog 6 Tryz.f6 (OpenSpec.ofChange Rows.jSONQuotesSpec).bare Rows.jSONQuotesRow = true := by
 unfold joinedFacts
 rw [jquotes_in, jquotes_un, jquotes_re, jquotes_na]
 kernel_rfl
theorem jquotes_said : Rows.JSONQuotesSaid :=
 OpenClaim.holds_of_cond 6 Tryz.f6 rfl rfl rfl rfl rfl rfl rfl ⟨rfl, rfl, rfl, rfl, rfl⟩ rfl rfl rfl rfl rfl (by kernel_rfl) Tryz.func6 jquotes_facts
  (of_decide_eq_true (by as_aux_lemma => kernel_rfl)) (by unfold Func.isWrapper; first | (rw [if_pos (by decide +kernel)]; kernel_rfl) | (rw [if_neg (by decide +kernel)]; exact ⟨rfl, rfl⟩))
  (fun os started H enc _ F => by rw [OpenClaim.pre_eq_preRow]; exact jquotes_lifted os started H enc F)
theorem jquotes_plain (f : FuncId) (fn : Func) (hf : Tryz.pinned.checked.prog.funcNamed "lexicon/lexiconlaw08.JSONQuotes" = some f) (hfn : Tryz.pinned.checked.prog.funcs[f]? = some fn) :
  true = Tryz.pinned.checked.prog.looks [] ∧ ∀ (j : Nat) t, fn.params[j]? = some t → Tryz.pinned.checked.prog.wantsStandIn t = false := by
 obtain rfl : f = 6 := Option.some.inj ((show Tryz.prog.funcNamed "lexicon/lexiconlaw08.JSONQuotes" = some 6 by kernel_rfl).symm.trans hf) |>.symm
 obtain rfl : fn = Tryz.f6 := (Option.some.inj (Tryz.func6.symm.trans hfn)).symm
 refine ⟨by kernel_rfl, fun j t ht => ?_⟩
 rw [Tryz.params6] at ht
 have : t = 9 := by simpa using Array.mem_of_getElem? ht
 subst this
 exact (show Tryz.prog.wantsStandIn 9 = false by kernel_rfl)
theorem jSONQuotes_proved : Rows.JSONQuotesCardSaid :=
 Claim7.holds_tied_plain_at .later [] _ _ _ _ jquotes_said (fun _ h => by cases h) (by kernel_rfl) (fun _ h => by cases h) jSONQuotes_row_tie rfl ⟨rfl, rfl⟩ (by kernel_rfl) rfl jquotes_plain (by kernel_rfl)
end Go.Proofs.YtfclfaidmipjpaaGreatDoor
