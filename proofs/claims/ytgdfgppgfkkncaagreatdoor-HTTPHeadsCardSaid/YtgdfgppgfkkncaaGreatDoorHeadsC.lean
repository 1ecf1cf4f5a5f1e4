/- HTTPHeads returns true at any bytes, and leaves them as they were, in every world whose listed variables hold what the program text lays (the tied card). -/
import Derived.Test.YtgdfgppgfkkncaaGreatDoorHtOp2
import Derived.Test.YtgdfgppgfkkncaaGreatDoorHeads
namespace Go.Proofs.YtgdfgppgfkkncaaGreatDoor
open Go.ChangeShapes Go.WideShapes Go.ChangeAt Go.RowKit
open Go.ChangeMaps (open_string shut_string)

theorem heads_laid : Rows.hTTPHeadsRow.laid = laidAll := by rfl
set_option maxRecDepth 100000 in
theorem heads_contract (H : Type) (enc : TypeId × Value → H) (W : World) (base : Nat) (args : Array Value) (ds gs : List (DataW H)) (before : List MemPlace)
    (hval : ∀ (j : Nat) t v, Tryz.f4.params[j]? = some t → args[j]? = some v → Value.okWide Tryz.prog W .any base t v)
    (hW : DataW.Whole enc Tryz.prog Tryz.f4.params.toList Rows.hTTPHeadsSpec.vars false W args.toList ds gs before) (hL : laidMetH Tryz.prog laidAll W) (hsh : W.ShapedOpen Tryz.prog) :
    Calls Tryz.prog 4 args W fun e W' => ∃ v, e = .returned v ∧ Rows.hTTPHeadsSpec.post enc Tryz.prog Tryz.f4 false true false false W args v W' := by
  have hW' := hW
  obtain ⟨p, q, hA0, hV, rfl, hfz, hnd⟩ := hW
  have hA : DataW.TrodAll enc Tryz.prog W 0 (fun _ => true) true Tryz.f4.params.toList args.toList ds p := hA0
  rw [Tryz.params4] at hA hval
  obtain ⟨v0, vs0, d0, ds0, p0, q0, hargs, rfl, rfl, h0, r0⟩ := trodAll_cons hA
  obtain ⟨rfl, rfl, rfl⟩ := trodAll_nil r0
  obtain rfl : args = #[v0] := by cases args; simp_all
  obtain ⟨rfl, rfl⟩ := trodVars_none hV
  have hlt0 : ∀ x ∈ p0, x.block < W.heap.size := fun x hx => by have h9 := hW'.lt x (by simp [hx]); simpa using h9
  obtain ⟨l0, hx0⟩ := open_byts (hval 0 23 v0 rfl rfl) h0
  clear hA0
  refine (heads_calls W (env_of hL hsh) v0 l0 hx0).mono fun e W' ⟨he, hb⟩ => ?_
  subst he
  exact ⟨_, rfl, _, _, _, [], _, [], hW', trodAll_cons_mk (shut_bool Tryz.underlying4 _) trodAll_mk0, trodAll_cons_mk (Below.trod laid_out (by kernel_rfl) (of_decide_eq_true (by kernel_rfl)) h0 hb hlt0) (trodAll_mk0), rfl, hb.frame _, fun h => by cases h⟩

/-- The witness' arguments. -/
def headsArgs : Array Value := #[.slice none 0 0]
theorem heads_reads (os : Os) {H : Type} (enc : TypeId × Value → H) : ∃ places, DataW.whole enc Tryz.prog ((laidWorld os).forCall (fun _ _ => 0) ⟨#[], headsArgs, []⟩).memory Tryz.f4.params.toList Rows.hTTPHeadsSpec.vars false headsArgs.toList 8 = some ([.nil], [], places) :=
  ⟨[], by kernel_rfl⟩

set_option maxRecDepth 100000 in
theorem heads_lifted (os : Os) (started : os.Started) (H : Type) (enc : TypeId × Value → H) (F : Stop.Interp) :
    ReturnsInHanded {} Tryz.checked os 4 .any ((OpenSpec.ofChange Rows.hTTPHeadsSpec).preRow enc Tryz.prog Tryz.f4 Rows.hTTPHeadsRow.domain false Rows.hTTPHeadsRow.laid) (((OpenSpec.ofChange Rows.hTTPHeadsSpec).at F).post enc Tryz.prog Tryz.f4 false true false false) := by
  obtain ⟨places, hx⟩ := heads_reads os enc
  refine returnsInHanded_of_row (C := Tryz.checked) (s := OpenSpec.ofChange Rows.hTTPHeadsSpec) frmOwn started (by kernel_rfl) Tryz.func4
    (witness_zip (enc := enc) (C := Tryz.checked) false (laidWorld os) headsArgs (laid_os os) (laid_shaped os _) (by kernel_rfl)
      (OpenSpec.preRow_of_cond 8 hx (by kernel_rfl) (fun k hk => by cases hk) (by kernel_rfl) (laid_met os _))) ?_
  intro W base args ds gs before hval hW _ _ _ hL hsh _
  exact heads_contract H enc W base args ds gs before hval hW hL hsh

theorem heads_said : Rows.HTTPHeadsSaid :=
  OpenClaim.holds_of_cond 4 Tryz.f4 rfl rfl rfl rfl rfl rfl rfl ⟨rfl, rfl, rfl, rfl, rfl⟩ rfl rfl rfl rfl rfl (by kernel_rfl) Tryz.func4 (by kernel_rfl)
    (of_decide_eq_true (by kernel_rfl)) (by unfold Func.isWrapper; first | (rw [if_pos (by decide +kernel)]; kernel_rfl) | (rw [if_neg (by decide +kernel)]; exact ⟨rfl, rfl⟩))
    (fun os started H enc _ F => by rw [OpenClaim.pre_eq_preRow]; exact heads_lifted os started H enc F)

/-- No parameter wants a stand-in; the program's own looks are on. -/
theorem heads_plain (f : FuncId) (fn : Func) (hf : Tryz.pinned.checked.prog.funcNamed "lexicon/lexiconlaw28.HTTPHeads" = some f) (hfn : Tryz.pinned.checked.prog.funcs[f]? = some fn) :
    true = Tryz.pinned.checked.prog.looks [] ∧ ∀ (j : Nat) t, fn.params[j]? = some t → Tryz.pinned.checked.prog.wantsStandIn t = false := by
  obtain rfl : f = 4 := Option.some.inj ((show Tryz.prog.funcNamed "lexicon/lexiconlaw28.HTTPHeads" = some 4 by kernel_rfl).symm.trans hf) |>.symm
  obtain rfl : fn = Tryz.f4 := (Option.some.inj (Tryz.func4.symm.trans hfn)).symm
  refine ⟨by kernel_rfl, fun j t ht => ?_⟩
  rw [Tryz.params4] at ht
  have : t = 23 := by simpa using Array.mem_of_getElem? ht
  subst this
  exact (show Tryz.prog.wantsStandIn 23 = false by kernel_rfl)

/-- The statement. -/
theorem hTTPHeads_proved : Rows.HTTPHeadsCardSaid :=
  Claim7.holds_tied_plain_at .later [] _ _ _ _ heads_said (fun _ h => by cases h) (by kernel_rfl) (fun _ h => by cases h) hTTPHeads_row_tie rfl ⟨rfl, rfl⟩ (by kernel_rfl) rfl heads_plain (by kernel_rfl)
end Go.Proofs.YtgdfgppgfkkncaaGreatDoor
