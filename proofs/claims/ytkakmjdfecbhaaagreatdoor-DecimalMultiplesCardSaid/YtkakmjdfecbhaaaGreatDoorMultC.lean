/- DecimalMultiples returns true at every two decimals and leaves them as they were, in every world whose listed tables hold what the program text lays (the tied card). -/
import Derived.Test.YtkakmjdfecbhaaaGreatDoorFrm
import Derived.Test.YtkakmjdfecbhaaaGreatDoorMult
namespace Go.Proofs.YtkakmjdfecbhaaaGreatDoor
open Go.ChangeShapes Go.WideShapes Go.ChangeAt Go.RowKit
open Go.ChangeMaps (open_string shut_string)

theorem multiples_laid : Rows.decimalMultiplesRow.laid = laidAll := by rfl
set_option maxRecDepth 100000 in
theorem multiples_contract (H : Type) (enc : TypeId × Value → H) (W : World) (base : Nat) (args : Array Value) (ds gs : List (DataW H)) (before : List MemPlace)
    (hval : ∀ (j : Nat) t v, Tryz.f4.params[j]? = some t → args[j]? = some v → Value.okWide Tryz.prog W .any base t v)
    (hW : DataW.Whole enc Tryz.prog Tryz.f4.params.toList Rows.decimalMultiplesSpec.vars false W args.toList ds gs before) (hL : laidMetH Tryz.prog laidAll W) :
    Calls Tryz.prog 4 args W fun e W' => ∃ v, e = .returned v ∧ Rows.decimalMultiplesSpec.post enc Tryz.prog Tryz.f4 false true false false W args v W' := by
  have hW' := hW
  obtain ⟨p, q, hA0, hV, rfl, hfz, hnd⟩ := hW
  have hA : DataW.TrodAll enc Tryz.prog W 0 (fun _ => true) true Tryz.f4.params.toList args.toList ds p := hA0
  rw [Tryz.params4] at hA hval
  obtain ⟨v0, vs0, d0, ds0, p0, q0, hargs, rfl, rfl, h0, r0⟩ := trodAll_cons hA
  obtain ⟨v1, vs1, d1, ds1, p1, q1, rfl, rfl, rfl, h1, r1⟩ := trodAll_cons r0
  obtain ⟨rfl, rfl, rfl⟩ := trodAll_nil r1
  obtain rfl : args = #[v0, v1] := by cases args; simp_all
  obtain ⟨rfl, rfl⟩ := trodVars_none hV
  obtain ⟨x0, rfl, rfl, rfl, hm0, hw0⟩ := open_dec (hval 0 24 v0 rfl rfl) h0
  obtain ⟨x1, rfl, rfl, rfl, hm1, hw1⟩ := open_dec (hval 1 24 v1 rfl rfl) h1
  clear hA0
  refine (multiples_calls W x0 x1 hm0 hm1 (tab_of hL)).mono fun e W' ⟨he, hb⟩ => ?_
  subst he
  exact ⟨_, rfl, _, _, _, [], [], [], hW', trodAll_cons_mk (shut_bool Tryz.underlying4 _) trodAll_mk0, trodAll_cons_mk (shut_dec x0 hm0 hw0) (trodAll_cons_mk (shut_dec x1 hm1 hw1) (trodAll_mk0)), rfl, hb.frame _, fun h => by cases h⟩

/-- The witness' arguments. -/
def multiplesArgs : Array Value := #[.agg #[.bool false, .string .empty, .int .i64 0], .agg #[.bool false, .string .empty, .int .i64 0]]
theorem multiples_reads (os : Os) {H : Type} (enc : TypeId × Value → H) : ∃ places, DataW.whole enc Tryz.prog ((laidWorld os).forCall (fun _ _ => 0) ⟨#[], multiplesArgs, []⟩).memory Tryz.f4.params.toList Rows.decimalMultiplesSpec.vars false multiplesArgs.toList 8 = some ([.agg [.lit (.bool false), .lit (.string []), .lit (.int .i64 0)], .agg [.lit (.bool false), .lit (.string []), .lit (.int .i64 0)]], [], places) :=
  ⟨[], by kernel_rfl⟩

set_option maxRecDepth 100000 in
theorem multiples_lifted (os : Os) (started : os.Started) (H : Type) (enc : TypeId × Value → H) (F : Stop.Interp) :
    ReturnsInHanded {} Tryz.checked os 4 .any ((OpenSpec.ofChange Rows.decimalMultiplesSpec).preRow enc Tryz.prog Tryz.f4 Rows.decimalMultiplesRow.domain false Rows.decimalMultiplesRow.laid) (((OpenSpec.ofChange Rows.decimalMultiplesSpec).at F).post enc Tryz.prog Tryz.f4 false true false false) := by
  obtain ⟨places, hx⟩ := multiples_reads os enc
  refine returnsInHanded_of_row (C := Tryz.checked) (s := OpenSpec.ofChange Rows.decimalMultiplesSpec) frmOwn started (by kernel_rfl) Tryz.func4
    (witness_row_at (enc := enc) (C := Tryz.checked) false (laidWorld os) multiplesArgs rfl (by kernel_rfl) (by kernel_rfl) (by kernel_rfl)
      (OpenSpec.preRow_of_cond 8 hx (by kernel_rfl) (fun k hk => by cases hk) (by kernel_rfl) ((laid_met os).of_heap (by rfl)))) ?_
  intro W base args ds gs before hval hW _ _ _ hL _ _
  exact multiples_contract H enc W base args ds gs before hval hW hL

theorem multiples_said : Rows.DecimalMultiplesSaid :=
  OpenClaim.holds_of_cond 4 Tryz.f4 rfl rfl rfl rfl rfl rfl rfl ⟨rfl, rfl, rfl, rfl, rfl⟩ rfl rfl rfl rfl rfl (by kernel_rfl) Tryz.func4 (by kernel_rfl)
    (of_decide_eq_true (by kernel_rfl)) (by unfold Func.isWrapper; first | (rw [if_pos (by decide +kernel)]; kernel_rfl) | (rw [if_neg (by decide +kernel)]; exact ⟨rfl, rfl⟩))
    (fun os started H enc _ F => by rw [OpenClaim.pre_eq_preRow]; exact multiples_lifted os started H enc F)

/-- No parameter wants a stand-in; the program's own looks are off. -/
theorem multiples_plain (f : FuncId) (fn : Func) (hf : Tryz.pinned.checked.prog.funcNamed "lexicon/lexiconlaw07.DecimalMultiples" = some f) (hfn : Tryz.pinned.checked.prog.funcs[f]? = some fn) :
    true = Tryz.pinned.checked.prog.looks [] ∧ ∀ (j : Nat) t, fn.params[j]? = some t → Tryz.pinned.checked.prog.wantsStandIn t = false := by
  obtain rfl : f = 4 := Option.some.inj ((show Tryz.prog.funcNamed "lexicon/lexiconlaw07.DecimalMultiples" = some 4 by kernel_rfl).symm.trans hf) |>.symm
  obtain rfl : fn = Tryz.f4 := (Option.some.inj (Tryz.func4.symm.trans hfn)).symm
  refine ⟨by kernel_rfl, fun j t ht => ?_⟩
  rw [Tryz.params4] at ht
  have : t = 24 := by simpa using Array.mem_of_getElem? ht
  subst this
  exact (show Tryz.prog.wantsStandIn 24 = false by kernel_rfl)

/-- The statement. -/
theorem decimalMultiples_proved : Rows.DecimalMultiplesCardSaid :=
  Claim7.holds_tied_plain_at .later [] _ _ _ _ multiples_said (fun _ h => by cases h) (by kernel_rfl) (fun _ h => by cases h) decimalMultiples_row_tie rfl ⟨rfl, rfl⟩ (by kernel_rfl) rfl multiples_plain (by kernel_rfl)
end Go.Proofs.YtkakmjdfecbhaaaGreatDoor
