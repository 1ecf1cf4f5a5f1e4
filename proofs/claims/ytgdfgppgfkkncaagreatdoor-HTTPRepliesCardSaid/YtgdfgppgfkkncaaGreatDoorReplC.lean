/- HTTPReplies returns true at every status, either flag, any bytes and any error's number, and leaves them as they were, in every world whose listed variables hold what the program text lays (the tied card). -/
import Derived.Test.YtgdfgppgfkkncaaGreatDoorHtOpn
import Derived.Test.YtgdfgppgfkkncaaGreatDoorRepl
namespace Go.Proofs.YtgdfgppgfkkncaaGreatDoor
open Go.ChangeShapes Go.WideShapes Go.ChangeAt Go.RowKit
open Go.ChangeMaps (open_string shut_string)

theorem replies_laid : Rows.hTTPRepliesRow.laid = laidAll := by rfl
set_option maxRecDepth 100000 in
theorem replies_contract (H : Type) (enc : TypeId × Value → H) (W : World) (base : Nat) (args : Array Value) (ds gs : List (DataW H)) (before : List MemPlace)
    (hval : ∀ (j : Nat) t v, Tryz.f7.params[j]? = some t → args[j]? = some v → Value.okWide Tryz.prog W .any base t v)
    (hW : DataW.Whole enc Tryz.prog Tryz.f7.params.toList Rows.hTTPRepliesSpec.vars false W args.toList ds gs before) (hL : laidMetH Tryz.prog laidAll W) (hsh : W.ShapedOpen Tryz.prog) :
    Calls Tryz.prog 7 args W fun e W' => ∃ v, e = .returned v ∧ Rows.hTTPRepliesSpec.post enc Tryz.prog Tryz.f7 false true false false W args v W' := by
  have hW' := hW
  obtain ⟨p, q, hA0, hV, rfl, hfz, hnd⟩ := hW
  have hA : DataW.TrodAll enc Tryz.prog W 0 (fun _ => true) true Tryz.f7.params.toList args.toList ds p := hA0
  rw [Tryz.params7] at hA hval
  obtain ⟨v0, vs0, d0, ds0, p0, q0, hargs, rfl, rfl, h0, r0⟩ := trodAll_cons hA
  obtain ⟨v1, vs1, d1, ds1, p1, q1, rfl, rfl, rfl, h1, r1⟩ := trodAll_cons r0
  obtain ⟨v2, vs2, d2, ds2, p2, q2, rfl, rfl, rfl, h2, r2⟩ := trodAll_cons r1
  obtain ⟨rfl, rfl, rfl⟩ := trodAll_nil r2
  obtain rfl : args = #[v0, v1, v2] := by cases args; simp_all
  obtain ⟨rfl, rfl⟩ := trodVars_none hV
  obtain ⟨x0, rfl, rfl, rfl, hm0⟩ := open_int Tryz.underlying3 (hval 0 3 v0 rfl rfl) h0
  have hi0 := bounds_i64 hm0
  obtain ⟨x1, rfl, rfl, rfl⟩ := open_bool Tryz.underlying4 (hval 1 4 v1 rfl rfl) h1
  have hlt2 : ∀ x ∈ p2, x.block < W.heap.size := fun x hx => by have h9 := hW'.lt x (by simp [hx]); simpa using h9
  obtain ⟨bv2, l2, e2, rfl, hx2⟩ := open_reply (hval 2 54 v2 rfl rfl) h2
  clear hA0
  refine (replies_calls W (env_of hL hsh) x0 x1 bv2 l2 e2 hx2 hi0.1 hi0.2).mono fun e W' ⟨he, hb⟩ => ?_
  subst he
  exact ⟨_, rfl, _, _, _, [], _, [], hW', trodAll_cons_mk (shut_bool Tryz.underlying4 _) trodAll_mk0, trodAll_cons_mk (shut_int Tryz.underlying3 hm0) (trodAll_cons_mk (shut_bool Tryz.underlying4 x1) (trodAll_cons_mk (Below.trod laid_out (by kernel_rfl) (of_decide_eq_true (by kernel_rfl)) h2 hb hlt2) (trodAll_mk0))), rfl, hb.frame _, fun h => by cases h⟩

/-- The witness' arguments. -/
def repliesArgs : Array Value := #[.int .i64 0, .bool false, .agg #[.slice none 0 0, .int .i64 0]]
theorem replies_reads (os : Os) {H : Type} (enc : TypeId × Value → H) : ∃ places, DataW.whole enc Tryz.prog ((laidWorld os).forCall (fun _ _ => 0) ⟨#[], repliesArgs, []⟩).memory Tryz.f7.params.toList Rows.hTTPRepliesSpec.vars false repliesArgs.toList 8 = some ([.lit (.int .i64 0), .lit (.bool false), .agg [.nil, .lit (.int .i64 0)]], [], places) :=
  ⟨[], by kernel_rfl⟩

set_option maxRecDepth 100000 in
theorem replies_lifted (os : Os) (started : os.Started) (H : Type) (enc : TypeId × Value → H) (F : Stop.Interp) :
    ReturnsInHanded {} Tryz.checked os 7 .any ((OpenSpec.ofChange Rows.hTTPRepliesSpec).preRow enc Tryz.prog Tryz.f7 Rows.hTTPRepliesRow.domain false Rows.hTTPRepliesRow.laid) (((OpenSpec.ofChange Rows.hTTPRepliesSpec).at F).post enc Tryz.prog Tryz.f7 false true false false) := by
  obtain ⟨places, hx⟩ := replies_reads os enc
  refine returnsInHanded_of_row (C := Tryz.checked) (s := OpenSpec.ofChange Rows.hTTPRepliesSpec) frmOwn started (by kernel_rfl) Tryz.func7
    (witness_zip (enc := enc) (C := Tryz.checked) false (laidWorld os) repliesArgs (laid_os os) (laid_shaped os _) (by kernel_rfl)
      (OpenSpec.preRow_of_cond 8 hx (by kernel_rfl) (fun k hk => by cases hk) (by kernel_rfl) (laid_met os _))) ?_
  intro W base args ds gs before hval hW _ _ _ hL hsh _
  exact replies_contract H enc W base args ds gs before hval hW hL hsh

theorem replies_said : Rows.HTTPRepliesSaid :=
  OpenClaim.holds_of_cond 7 Tryz.f7 rfl rfl rfl rfl rfl rfl rfl ⟨rfl, rfl, rfl, rfl, rfl⟩ rfl rfl rfl rfl rfl (by kernel_rfl) Tryz.func7 (by kernel_rfl)
    (of_decide_eq_true (by kernel_rfl)) (by unfold Func.isWrapper; first | (rw [if_pos (by decide +kernel)]; kernel_rfl) | (rw [if_neg (by decide +kernel)]; exact ⟨rfl, rfl⟩))
    (fun os started H enc _ F => by rw [OpenClaim.pre_eq_preRow]; exact replies_lifted os started H enc F)

/-- No parameter wants a stand-in; the program's own looks are on. -/
theorem replies_plain (f : FuncId) (fn : Func) (hf : Tryz.pinned.checked.prog.funcNamed "lexicon/lexiconlaw28.HTTPReplies" = some f) (hfn : Tryz.pinned.checked.prog.funcs[f]? = some fn) :
    true = Tryz.pinned.checked.prog.looks [] ∧ ∀ (j : Nat) t, fn.params[j]? = some t → Tryz.pinned.checked.prog.wantsStandIn t = false := by
  obtain rfl : f = 7 := Option.some.inj ((show Tryz.prog.funcNamed "lexicon/lexiconlaw28.HTTPReplies" = some 7 by kernel_rfl).symm.trans hf) |>.symm
  obtain rfl : fn = Tryz.f7 := (Option.some.inj (Tryz.func7.symm.trans hfn)).symm
  refine ⟨by kernel_rfl, fun j t ht => ?_⟩
  rw [Tryz.params7] at ht
  have : t = 3 ∨ t = 4 ∨ t = 54 := by simpa using Array.mem_of_getElem? ht
  rcases this with rfl | rfl | rfl
  · exact (show Tryz.prog.wantsStandIn 3 = false by kernel_rfl)
  · exact (show Tryz.prog.wantsStandIn 4 = false by kernel_rfl)
  · exact (show Tryz.prog.wantsStandIn 54 = false by kernel_rfl)

/-- The statement. -/
theorem hTTPReplies_proved : Rows.HTTPRepliesCardSaid :=
  Claim7.holds_tied_plain_at .later [] _ _ _ _ replies_said (fun _ h => by cases h) (by kernel_rfl) (fun _ h => by cases h) hTTPReplies_row_tie rfl ⟨rfl, rfl⟩ (by kernel_rfl) rfl replies_plain (by kernel_rfl)
end Go.Proofs.YtgdfgppgfkkncaaGreatDoor
