/- DecimalInts returns true at every whole number of 64 bits and every decimal, and leaves them as they were, in every world whose listed variables hold what the program text lays (the tied card). -/
import Derived.Test.YtkakmjdfecbhaaaGreatDoorInts
import Derived.Test.YtkakmjdfecbhaaaGreatDoorFrm
namespace Go.Proofs.YtkakmjdfecbhaaaGreatDoor
open Go.ChangeShapes Go.WideShapes Go.ChangeAt Go.RowKit

def laidAllI : List (String × DataW Unit) := [("math/bits.deBruijn32tab", Rows.laid_math_bits_deBruijn32tab), ("math/bits.deBruijn64tab", Rows.laid_math_bits_deBruijn64tab), ("internal/strconv.uint64pow10", Rows.laid_internal_strconv_uint64pow10), ("unicode/utf8.acceptRanges", Rows.laid_unicode_utf8_acceptRanges), ("strconv.ErrRange", Rows.laid_strconv_ErrRange), ("strconv.ErrSyntax", Rows.laid_strconv_ErrSyntax), ("unicode/utf8.first", Rows.laid_unicode_utf8_first)]
theorem tab_ofI {W : World} (h : laidMet Tryz.prog laidAllI W) : Tab W := by
  have h2 := laidMet.tail (laidMet.tail h)
  rw [pow_tab] at h2
  exact Lib.tabIs_of_head gPow gPowType Tryz.underlying144 Tryz.underlying90 cellsU64 cellsPow h2
theorem gRangeType : (Tryz.prog.globals[2]?).map (·.type) = some 78 := by kernel_rfl
theorem star_name : "*" ++ "errors.errorString" = "*errors.errorString" := by decide
theorem range_name (u : TypeId) (h : Tryz.prog.typeName? 3 u = some "*errors.errorString") : u = 158 :=
  typeName_ptr_named (nm := "errors.errorString") (by rw [star_name]; kernel_rfl) (by kernel_rfl) (by decide) u (by rw [star_name]; exact h)
theorem range_ofI {W : World} (h : laidMet Tryz.prog laidAllI W) : RangeV W := by
  have h2 := laidMet.tail (laidMet.tail (laidMet.tail (laidMet.tail h)))
  obtain ⟨a, s, hv, _⟩ := laid_sentinel h2 gRange gRangeType Tryz.underlying78 range_name Tryz.underlying158 Tryz.underlying160 rfl rfl Tryz.underlying9 (by kernel_rfl) (by kernel_rfl)
  refine ⟨?_, _, _, hv⟩
  unfold World.var? at hv
  simp only [gRange, Option.bind_some] at hv
  rcases Nat.lt_or_ge 2 W.heap.size with h' | h'
  · exact h'
  · simp [Array.getElem?_eq_none h'] at hv
/-- An error's cell: it points to block n. -/
def errIn (n : Nat) : Obj → Obj
  | .cells _ t frozen => .cells #[.iface 158 (.pointer (some ⟨n, 0, none⟩))] t frozen
  | o => o
def textOf : DataW Unit → ByteArray
  | .iface _ (.ptr (.agg [.lit (.string l)])) => ⟨l.toArray⟩
  | _ => .empty
noncomputable def laidWorldI (os : Os) : World :=
  { laidWorld os with heap := (((laidWorld os).heap.modify 2 (errIn (laidWorld os).heap.size)).modify 1 (errIn ((laidWorld os).heap.size + 1))).push (.cells #[.string (textOf Rows.laid_strconv_ErrRange)] 160) |>.push (.cells #[.string (textOf Rows.laid_strconv_ErrSyntax)] 160) }
theorem laid_metI (os : Os) : laidMet Tryz.prog laidAllI (laidWorldI os) :=
  laidMet_of_run3 8 (by kernel_rfl) (by kernel_rfl) (by kernel_rfl)
end Go.Proofs.YtkakmjdfecbhaaaGreatDoor

namespace Go.Proofs.YtkakmjdfecbhaaaGreatDoor
open Go.ChangeShapes Go.WideShapes Go.ChangeAt Go.RowKit
open Go.ChangeMaps (open_string shut_string)

theorem ints_laid : Rows.decimalIntsRow.laid = laidAllI := by rfl
set_option maxRecDepth 100000 in
theorem ints_contract (H : Type) (enc : TypeId × Value → H) (W : World) (base : Nat) (args : Array Value) (ds gs : List (DataW H)) (before : List MemPlace)
    (hval : ∀ (j : Nat) t v, Tryz.f5.params[j]? = some t → args[j]? = some v → Value.okWide Tryz.prog W .any base t v)
    (hW : DataW.Whole enc Tryz.prog Tryz.f5.params.toList Rows.decimalIntsSpec.vars false W args.toList ds gs before) (hL : laidMetH Tryz.prog laidAllI W) :
    Calls Tryz.prog 5 args W fun e W' => ∃ v, e = .returned v ∧ Rows.decimalIntsSpec.post enc Tryz.prog Tryz.f5 false true false false W args v W' := by
  have hW' := hW
  obtain ⟨p, q, hA0, hV, rfl, hfz, hnd⟩ := hW
  have hA : DataW.TrodAll enc Tryz.prog W 0 (fun _ => true) true Tryz.f5.params.toList args.toList ds p := hA0
  rw [Tryz.params5] at hA hval
  obtain ⟨v0, vs0, d0, ds0, p0, q0, hargs, rfl, rfl, h0, r0⟩ := trodAll_cons hA
  obtain ⟨v1, vs1, d1, ds1, p1, q1, rfl, rfl, rfl, h1, r1⟩ := trodAll_cons r0
  obtain ⟨rfl, rfl, rfl⟩ := trodAll_nil r1
  obtain rfl : args = #[v0, v1] := by cases args; simp_all
  obtain ⟨rfl, rfl⟩ := trodVars_none hV
  obtain ⟨x0, rfl, rfl, rfl, hm0⟩ := open_int Tryz.underlying2 (hval 0 2 v0 rfl rfl) h0
  have hi0 := bounds_i64 hm0
  obtain ⟨x1, rfl, rfl, rfl, hm1, hw1⟩ := open_dec (hval 1 24 v1 rfl rfl) h1
  clear hA0
  refine (ints_calls W x0 x1 hi0.1 hi0.2 hm1 (tab_ofI hL) (range_ofI hL)).mono fun e W' ⟨he, hb⟩ => ?_
  subst he
  exact ⟨_, rfl, _, _, _, [], _, [], hW', trodAll_cons_mk (shut_bool Tryz.underlying4 _) trodAll_mk0, trodAll_cons_mk (shut_int Tryz.underlying2 hm0) (trodAll_cons_mk (shut_dec x1 hm1 hw1) (trodAll_mk0)), rfl, hb.frame _, fun h => by cases h⟩

/-- The witness' arguments. -/
def intsArgs : Array Value := #[.int .i64 0, .agg #[.bool false, .string .empty, .int .i64 0]]
theorem ints_reads (os : Os) {H : Type} (enc : TypeId × Value → H) : ∃ places, DataW.whole enc Tryz.prog ((laidWorldI os).forCall (fun _ _ => 0) ⟨#[], intsArgs, []⟩).memory Tryz.f5.params.toList Rows.decimalIntsSpec.vars false intsArgs.toList 8 = some ([.lit (.int .i64 0), .agg [.lit (.bool false), .lit (.string []), .lit (.int .i64 0)]], [], places) :=
  ⟨[], by kernel_rfl⟩

set_option maxRecDepth 100000 in
theorem ints_lifted (os : Os) (started : os.Started) (H : Type) (enc : TypeId × Value → H) (F : Stop.Interp) :
    ReturnsInHanded {} Tryz.checked os 5 .any ((OpenSpec.ofChange Rows.decimalIntsSpec).preRow enc Tryz.prog Tryz.f5 Rows.decimalIntsRow.domain false Rows.decimalIntsRow.laid) (((OpenSpec.ofChange Rows.decimalIntsSpec).at F).post enc Tryz.prog Tryz.f5 false true false false) := by
  obtain ⟨places, hx⟩ := ints_reads os enc
  refine returnsInHanded_of_row (C := Tryz.checked) (s := OpenSpec.ofChange Rows.decimalIntsSpec) frmOwn started (by kernel_rfl) Tryz.func5
    (witness_row_at (enc := enc) (C := Tryz.checked) false (laidWorldI os) intsArgs rfl (by kernel_rfl) (by kernel_rfl) (by kernel_rfl)
      (OpenSpec.preRow_of_cond 8 hx (by kernel_rfl) (fun k hk => by cases hk) (by kernel_rfl) ((laid_metI os).of_heap (by rfl)))) ?_
  intro W base args ds gs before hval hW _ _ _ hL _ _
  exact ints_contract H enc W base args ds gs before hval hW hL

theorem ints_said : Rows.DecimalIntsSaid :=
  OpenClaim.holds_of_cond 5 Tryz.f5 rfl rfl rfl rfl rfl rfl rfl ⟨rfl, rfl, rfl, rfl, rfl⟩ rfl rfl rfl rfl rfl (by kernel_rfl) Tryz.func5 (by kernel_rfl)
    (of_decide_eq_true (by kernel_rfl)) (by unfold Func.isWrapper; first | (rw [if_pos (by decide +kernel)]; kernel_rfl) | (rw [if_neg (by decide +kernel)]; exact ⟨rfl, rfl⟩))
    (fun os started H enc _ F => by rw [OpenClaim.pre_eq_preRow]; exact ints_lifted os started H enc F)

/-- No parameter wants a stand-in; the program's own looks are off. -/
theorem ints_plain (f : FuncId) (fn : Func) (hf : Tryz.pinned.checked.prog.funcNamed "lexicon/lexiconlaw07.DecimalInts" = some f) (hfn : Tryz.pinned.checked.prog.funcs[f]? = some fn) :
    true = Tryz.pinned.checked.prog.looks [] ∧ ∀ (j : Nat) t, fn.params[j]? = some t → Tryz.pinned.checked.prog.wantsStandIn t = false := by
  obtain rfl : f = 5 := Option.some.inj ((show Tryz.prog.funcNamed "lexicon/lexiconlaw07.DecimalInts" = some 5 by kernel_rfl).symm.trans hf) |>.symm
  obtain rfl : fn = Tryz.f5 := (Option.some.inj (Tryz.func5.symm.trans hfn)).symm
  refine ⟨by kernel_rfl, fun j t ht => ?_⟩
  rw [Tryz.params5] at ht
  have : t = 2 ∨ t = 24 := by simpa using Array.mem_of_getElem? ht
  rcases this with rfl | rfl
  · exact (show Tryz.prog.wantsStandIn 2 = false by kernel_rfl)
  · exact (show Tryz.prog.wantsStandIn 24 = false by kernel_rfl)

/-- The statement. -/
theorem decimalInts_proved : Rows.DecimalIntsCardSaid :=
  Claim7.holds_tied_plain_at .later [] _ _ _ _ ints_said (fun _ h => by cases h) (by kernel_rfl) (fun _ h => by cases h) decimalInts_row_tie rfl ⟨rfl, rfl⟩ (by kernel_rfl) rfl ints_plain (by kernel_rfl)
end Go.Proofs.YtkakmjdfecbhaaaGreatDoor
