/- JSONPaths returns true at any value whose bulk is 1048576 at most, any path and name, and leaves the value as it was, in every world whose listed variables hold what the program text lays (the tied card). -/
import Derived.Test.YtfclfaidmipjpaaGreatDoorPa14
namespace Go.Proofs.YtfclfaidmipjpaaGreatDoor
set_option maxRecDepth 100000
set_option maxHeartbeats 20000000
open Go.ChangeShapes Go.WideShapes Go.ChangeAt Go.RowKit
open Go.ChangeMaps (open_string shut_string)
theorem jpaths_laid : Rows.jSONPathsUptoRow.laid = laidAll := by rfl
theorem jpaths_contract (H : Type) (enc : TypeId × Value → H) (W : World) (base : Nat) (args : Array Value) (ds gs : List (DataW H)) (before : List MemPlace)
  (hval : ∀ (j : Nat) t v, Tryz.f4.params[j]? = some t → args[j]? = some v → Value.okWide Tryz.prog W .any base t v)
  (hW : DataW.Whole enc Tryz.prog Tryz.f4.params.toList Rows.jSONPathsSpec.vars false W args.toList ds gs before) (hL : laidMetH Tryz.prog laidAll W) (hsh : W.ShapedOpen Tryz.prog) (hk : Rows.uptoSmall H (ds ++ gs) = true) :
  Calls Tryz.prog 4 args W fun e W' => ∃ v, e = .returned v ∧ Rows.jSONPathsSpec.post enc Tryz.prog Tryz.f4 false true false false W args v W' := by
 have hW' := hW
 obtain ⟨p, q, hA0, hV, rfl, hfz, hnd⟩ := hW
 have hA : DataW.TrodAll enc Tryz.prog W 0 (fun _ => true) true Tryz.f4.params.toList args.toList ds p := hA0
 rw [Tryz.params4] at hA hval
 obtain ⟨v0, vs0, d0, ds0, p0, q0, hargs, rfl, rfl, h0, r0⟩ := trodAll_cons hA
 obtain ⟨v1, vs1, d1, ds1, p1, q1, rfl, rfl, rfl, h1, r1⟩ := trodAll_cons r0
 obtain ⟨v2, vs2, d2, ds2, p2, q2, rfl, rfl, rfl, h2, r2⟩ := trodAll_cons r1
 obtain ⟨rfl, rfl, rfl⟩ := trodAll_nil r2
 obtain rfl : args = #[v0, v1, v2] := by cases args; simp_all
 obtain ⟨rfl, rfl⟩ := trodVars_none hV
 have hlt0 : ∀ x ∈ p0, x.block < W.heap.size := fun x hx => by have h9 := hW'.lt x (by simp [hx]); simpa using h9
 obtain ⟨q0j, rfl, hx0, hn0⟩ := open_json (hval 0 30 v0 rfl rfl) h0
 have hk1 := of_decide_eq_true hk
 simp only [Rows.uptoBulkAll, List.append_nil] at hk1
 obtain ⟨s1, rfl, rfl, rfl, hm1⟩ := open_string Tryz.underlying9 (hval 1 9 v1 rfl rfl) h1
 obtain ⟨l1, rfl⟩ : ∃ l : List UInt8, s1 = ⟨l.toArray⟩ := ⟨s1.data.toList, rfl⟩
 have hlt2 : ∀ x ∈ p2, x.block < W.heap.size := fun x hx => by have h9 := hW'.lt x (by simp [hx]); simpa using h9
 obtain ⟨l2, z2, rfl⟩ := open_asked (hval 2 40 v2 rfl rfl) h2
 clear hA0
 refine (jpaths_calls W (env_of hL hsh) q0j l1 l2 z2 hx0 (by omega)).mono fun e W' ⟨he, hb⟩ => ?_
 subst he
 exact ⟨_, rfl, _, _, _, [], _, [], hW', trodAll_cons_mk (shut_bool Tryz.underlying4 _) trodAll_mk0, trodAll_cons_mk (Below.trod laid_out (by kernel_rfl) (of_decide_eq_true (by kernel_rfl)) h0 hb hlt0) (trodAll_cons_mk (shut_string Tryz.underlying9 hm1) (trodAll_cons_mk (Below.trod laid_out (by kernel_rfl) (of_decide_eq_true (by kernel_rfl)) h2 hb hlt2) (trodAll_mk0))), rfl, hb.frame _, fun h => by cases h⟩
def jpathsArgs : Array Value := #[.agg #[.int .i64 0, .bool false, .bool false, .string ⟨#[]⟩, .int .i64 0, .string ⟨#[]⟩, .slice none 0 0, .slice none 0 0], .string .empty, .agg #[.string ⟨#[]⟩, .int .i64 0]]
theorem jpaths_reads (os : Os) {H : Type} (enc : TypeId × Value → H) : ∃ places, DataW.whole enc Tryz.prog ((laidWorld os).forCall (fun _ _ => 0) ⟨#[], jpathsArgs, []⟩).memory Tryz.f4.params.toList Rows.jSONPathsSpec.vars false jpathsArgs.toList 8 = some ([.agg [.lit (.int .i64 0), .lit (.bool false), .agg [.lit (.bool false), .lit (.string []), .lit (.int .i64 0)], .lit (.string []), .nil, .nil], .lit (.string []), .agg [.lit (.string []), .lit (.int .i64 0)]], [], places) :=
 ⟨[], by kernel_rfl⟩
theorem jpaths_lifted (os : Os) (started : os.Started) (H : Type) (enc : TypeId × Value → H) (F : Stop.Interp) :
  ReturnsInHanded {} Tryz.checked os 4 .any ((Rows.OpenSpec.upto Rows.jSONPathsSpec).preRow enc Tryz.prog Tryz.f4 Rows.jSONPathsUptoRow.domain false Rows.jSONPathsUptoRow.laid) (((Rows.OpenSpec.upto Rows.jSONPathsSpec).at F).post enc Tryz.prog Tryz.f4 false true false false) := by
 obtain ⟨places, hx⟩ := jpaths_reads os enc
 refine returnsInHanded_of_row (C := Tryz.checked) (s := Rows.OpenSpec.upto Rows.jSONPathsSpec) frmOwn started (by kernel_rfl) Tryz.func4
  (witness_zip (enc := enc) (C := Tryz.checked) false (laidWorld os) jpathsArgs (laid_os os) (laid_shaped os _) (by kernel_rfl)
   (OpenSpec.preRow_of_cond 8 hx (by kernel_rfl) (fun k hk => by cases hk; kernel_rfl) (by kernel_rfl) (laid_met os _))) ?_
 intro W base args ds gs before hval hW _ hcond _ hL hsh _
 exact jpaths_contract H enc W base args ds gs before hval hW hL hsh (hcond _ rfl)
theorem jpaths_in : (Rows.jSONPathsUptoRow.inPlace == Tryz.pinned.checked.prog.inPlace 4) = true := by kernel_rfl
theorem jpaths_un : (Rows.jSONPathsUptoRow.unfollowed == Tryz.pinned.checked.prog.unfollowed 4) = true := by kernel_rfl
theorem jpaths_re : (Rows.jSONPathsUptoRow.recurses == Tryz.pinned.checked.prog.recurses 4) = true := by kernel_rfl
theorem jpaths_na : (Rows.jSONPathsUptoRow.named == Tryz.pinned.checked.prog.varsNamed 4) = true := by kernel_rfl
theorem jpaths_facts : joinedFacts Tryz.pinned.checked.prog 4 Tryz.f4 (Rows.OpenSpec.upto Rows.jSONPathsSpec).bare Rows.jSONPathsUptoRow = true := by
 unfold joinedFacts
 rw [jpaths_in, jpaths_un, jpaths_re, jpaths_na]
 kernel_rfl
theorem jpaths_said : Rows.JSONPathsUptoSaid :=
 OpenClaim.holds_of_cond 4 Tryz.f4 rfl rfl rfl rfl rfl rfl rfl ⟨rfl, rfl, rfl, rfl, rfl⟩ rfl rfl rfl rfl rfl (by kernel_rfl) Tryz.func4 jpaths_facts
  (of_decide_eq_true (by as_aux_lemma => kernel_rfl)) (by unfold Func.isWrapper; first | (rw [if_pos (by decide +kernel)]; kernel_rfl) | (rw [if_neg (by decide +kernel)]; exact ⟨rfl, rfl⟩))
  (fun os started H enc _ F => by rw [OpenClaim.pre_eq_preRow]; exact jpaths_lifted os started H enc F)
theorem jpaths_plain (f : FuncId) (fn : Func) (hf : Tryz.pinned.checked.prog.funcNamed "lexicon/lexiconlaw08.JSONPaths" = some f) (hfn : Tryz.pinned.checked.prog.funcs[f]? = some fn) :
  true = Tryz.pinned.checked.prog.looks [] ∧ ∀ (j : Nat) t, fn.params[j]? = some t → Tryz.pinned.checked.prog.wantsStandIn t = false := by
 obtain rfl : f = 4 := Option.some.inj ((show Tryz.prog.funcNamed "lexicon/lexiconlaw08.JSONPaths" = some 4 by kernel_rfl).symm.trans hf) |>.symm
 obtain rfl : fn = Tryz.f4 := (Option.some.inj (Tryz.func4.symm.trans hfn)).symm
 refine ⟨by kernel_rfl, fun j t ht => ?_⟩
 rw [Tryz.params4] at ht
 have : t = 30 ∨ t = 9 ∨ t = 40 := by simpa using Array.mem_of_getElem? ht
 rcases this with rfl | rfl | rfl
 ·exact (show Tryz.prog.wantsStandIn 30 = false by kernel_rfl)
 ·exact (show Tryz.prog.wantsStandIn 9 = false by kernel_rfl)
 ·exact (show Tryz.prog.wantsStandIn 40 = false by kernel_rfl)
theorem jSONPaths_proved : Rows.JSONPathsUptoCardSaid :=
 Claim7.holds_tied_plain_at .later [] _ _ _ _ jpaths_said (fun _ h => by cases h) (by kernel_rfl) (fun _ h => by cases h) jSONPathsUpto_row_tie rfl ⟨rfl, rfl⟩ (by kernel_rfl) rfl jpaths_plain (by kernel_rfl)
end Go.Proofs.YtfclfaidmipjpaaGreatDoor
