/- JSONBounds returns true, in every world whose listed variables hold what the program text lays (the tied card). -/
import Derived.Test.YtfclfaidmipjpaaGreatDoorCo32
import Derived.Test.YtfclfaidmipjpaaGreatDoorBn01
namespace Go.Proofs.YtfclfaidmipjpaaGreatDoor
set_option maxRecDepth 100000
set_option maxHeartbeats 20000000
open Go.ChangeShapes Go.WideShapes Go.ChangeAt Go.RowKit
open Go.ChangeMaps (open_string shut_string)
theorem jbounds_laid : Rows.jSONBoundsRow.laid = laidAll := by rfl
theorem jbounds_contract (H : Type) (enc : TypeId × Value → H) (W : World) (base : Nat) (args : Array Value) (ds gs : List (DataW H)) (before : List MemPlace)
  (hval : ∀ (j : Nat) t v, Tryz.f7.params[j]? = some t → args[j]? = some v → Value.okWide Tryz.prog W .any base t v)
  (hW : DataW.Whole enc Tryz.prog Tryz.f7.params.toList Rows.jSONBoundsSpec.vars false W args.toList ds gs before) (hL : laidMetH Tryz.prog laidAll W) (hsh : W.ShapedOpen Tryz.prog) :
  Calls Tryz.prog 7 args W fun e W' => ∃ v, e = .returned v ∧ Rows.jSONBoundsSpec.post enc Tryz.prog Tryz.f7 false true false false W args v W' := by
 have hW' := hW
 obtain ⟨p, q, hA0, hV, rfl, hfz, hnd⟩ := hW
 have hA : DataW.TrodAll enc Tryz.prog W 0 (fun _ => true) true Tryz.f7.params.toList args.toList ds p := hA0
 rw [Tryz.params7] at hA hval
 obtain ⟨hargs, rfl, rfl⟩ := trodAll_nil hA
 obtain rfl : args = #[] := by cases args; simp_all
 obtain ⟨rfl, rfl⟩ := trodVars_none hV
 clear hA0
 refine (jbounds_calls W (env_of hL hsh) ).mono fun e W' ⟨he, hb⟩ => ?_
 subst he
 exact ⟨_, rfl, _, _, _, [], _, [], hW', trodAll_cons_mk (shut_bool Tryz.underlying4 _) trodAll_mk0, trodAll_mk0, rfl, hb.frame _, fun h => by cases h⟩
def jboundsArgs : Array Value := #[]
theorem jbounds_reads (os : Os) {H : Type} (enc : TypeId × Value → H) : ∃ places, DataW.whole enc Tryz.prog ((laidWorld os).forCall (fun _ _ => 0) ⟨#[], jboundsArgs, []⟩).memory Tryz.f7.params.toList Rows.jSONBoundsSpec.vars false jboundsArgs.toList 8 = some ([], [], places) :=
 ⟨[], by kernel_rfl⟩
theorem jbounds_lifted (os : Os) (started : os.Started) (H : Type) (enc : TypeId × Value → H) (F : Stop.Interp) :
  ReturnsInHanded {} Tryz.checked os 7 .any ((OpenSpec.ofChange Rows.jSONBoundsSpec).preRow enc Tryz.prog Tryz.f7 Rows.jSONBoundsRow.domain false Rows.jSONBoundsRow.laid) (((OpenSpec.ofChange Rows.jSONBoundsSpec).at F).post enc Tryz.prog Tryz.f7 false true false false) := by
 obtain ⟨places, hx⟩ := jbounds_reads os enc
 refine returnsInHanded_of_row (C := Tryz.checked) (s := OpenSpec.ofChange Rows.jSONBoundsSpec) frmOwn started (by kernel_rfl) Tryz.func7
  (witness_zip (enc := enc) (C := Tryz.checked) false (laidWorld os) jboundsArgs (laid_os os) (laid_shaped os _) (by kernel_rfl)
   (OpenSpec.preRow_of_cond 8 hx (by kernel_rfl) (fun k hk => by cases hk) (by kernel_rfl) (laid_met os _))) ?_
 intro W base args ds gs before hval hW _ _ _ hL hsh _
 exact jbounds_contract H enc W base args ds gs before hval hW hL hsh
theorem jbounds_in : (Rows.jSONBoundsRow.inPlace == Tryz.pinned.checked.prog.inPlace 7) = true := by kernel_rfl
theorem jbounds_un : (Rows.jSONBoundsRow.unfollowed == Tryz.pinned.checked.prog.unfollowed 7) = true := by kernel_rfl
theorem jbounds_re : (Rows.jSONBoundsRow.recurses == Tryz.pinned.checked.prog.recurses 7) = true := by kernel_rfl
theorem jbounds_na : (Rows.jSONBoundsRow.named == Tryz.pinned.checked.prog.varsNamed 7) = true := by kernel_rfl
theorem jbounds_facts : joinedFacts Tryz.pinned.checked.prog 7 Tryz.f7 (OpenSpec.ofChange Rows.jSONBoundsSpec).bare Rows.jSONBoundsRow = true := by
 unfold joinedFacts
 rw [jbounds_in, jbounds_un, jbounds_re, jbounds_na]
 kernel_rfl
theorem jbounds_said : Rows.JSONBoundsSaid :=
 OpenClaim.holds_of_cond 7 Tryz.f7 rfl rfl rfl rfl rfl rfl rfl ⟨rfl, rfl, rfl, rfl, rfl⟩ rfl rfl rfl rfl rfl (by kernel_rfl) Tryz.func7 jbounds_facts
  (of_decide_eq_true (by as_aux_lemma => kernel_rfl)) (by unfold Func.isWrapper; first | (rw [if_pos (by decide +kernel)]; kernel_rfl) | (rw [if_neg (by decide +kernel)]; exact ⟨rfl, rfl⟩))
  (fun os started H enc _ F => by rw [OpenClaim.pre_eq_preRow]; exact jbounds_lifted os started H enc F)
theorem jbounds_plain (f : FuncId) (fn : Func) (hf : Tryz.pinned.checked.prog.funcNamed "lexicon/lexiconlaw08.JSONBounds" = some f) (hfn : Tryz.pinned.checked.prog.funcs[f]? = some fn) :
  true = Tryz.pinned.checked.prog.looks [] ∧ ∀ (j : Nat) t, fn.params[j]? = some t → Tryz.pinned.checked.prog.wantsStandIn t = false := by
 obtain rfl : f = 7 := Option.some.inj ((show Tryz.prog.funcNamed "lexicon/lexiconlaw08.JSONBounds" = some 7 by kernel_rfl).symm.trans hf) |>.symm
 obtain rfl : fn = Tryz.f7 := (Option.some.inj (Tryz.func7.symm.trans hfn)).symm
 refine ⟨by kernel_rfl, fun j t ht => ?_⟩
 rw [Tryz.params7] at ht
 simp at ht
theorem jSONBounds_proved : Rows.JSONBoundsCardSaid :=
 Claim7.holds_tied_plain_at .later [] _ _ _ _ jbounds_said (fun _ h => by cases h) (by kernel_rfl) (fun _ h => by cases h) jSONBounds_row_tie rfl ⟨rfl, rfl⟩ (by kernel_rfl) rfl jbounds_plain (by kernel_rfl)
end Go.Proofs.YtfclfaidmipjpaaGreatDoor
