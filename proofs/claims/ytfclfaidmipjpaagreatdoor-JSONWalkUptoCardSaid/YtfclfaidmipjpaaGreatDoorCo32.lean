/- Arguments of JSON's laws: bytes. -/
import Derived.Test.YtfclfaidmipjpaaGreatDoorCards
import Derived.Test.YtfclfaidmipjpaaGreatDoorTie
import Derived.Deep.DeepHandedRow
import Derived.Stop.LaidErr
import Derived.Lay
import Derived.Clock
import Derived.Lib.LaidU8T
import Derived.PinnedBridge
import Derived.Test.YtfclfaidmipjpaaGreatDoorCo31
namespace Go.Proofs.YtfclfaidmipjpaaGreatDoor
set_option maxRecDepth 100000
set_option maxHeartbeats 20000000
open Go.ChangeShapes Go.WideShapes Go.ChangeAt Go.RowKit
open Go.ChangeMaps (open_string shut_string)
theorem gRange : Tryz.prog.globalNamed "strconv.ErrRange" = some 4 := by kernel_rfl
theorem gSyn : Tryz.prog.globalNamed "strconv.ErrSyntax" = some 3 := by kernel_rfl
theorem gPow : Tryz.prog.globalNamed "internal/strconv.uint64pow10" = some 5 := by kernel_rfl
theorem frmOwn : ownKnob Tryz.prog.godebug = none := by kernel_rfl
theorem gPowType : (Tryz.prog.globals[5]?).map (·.type) = some 262 := by kernel_rfl
theorem cellsPow : Tryz.prog.cellsOf 262 = 20 := by kernel_rfl
theorem cellsU64 : Tryz.prog.cellsOf 151 = 1 := by kernel_rfl
theorem pow_tab : Rows.laid_internal_strconv_uint64pow10 (H := Unit) = Lib.tabData .u64 Lib.pow10Tab := by kernel_rfl
def laidAll : List (String × DataW Unit) := [("math/bits.deBruijn32tab", Rows.laid_math_bits_deBruijn32tab), ("math/bits.deBruijn64tab", Rows.laid_math_bits_deBruijn64tab), ("internal/strconv.uint64pow10", Rows.laid_internal_strconv_uint64pow10), ("unicode/utf8.acceptRanges", Rows.laid_unicode_utf8_acceptRanges), ("strconv.ErrRange", Rows.laid_strconv_ErrRange), ("strconv.ErrSyntax", Rows.laid_strconv_ErrSyntax), ("unicode/utf8.first", Rows.laid_unicode_utf8_first)]
theorem tab_of {W : World} (h : laidMet Tryz.prog laidAll W) : Lib.TabIs Tryz.prog W "internal/strconv.uint64pow10" .u64 Lib.pow10Tab := by
 have h2 := laidMet.tail (laidMet.tail h)
 rw [pow_tab] at h2
 exact Lib.tabIs_of_head gPow gPowType Tryz.underlying262 Tryz.underlying151 cellsU64 cellsPow h2
theorem gRangeType : (Tryz.prog.globals[4]?).map (·.type) = some 135 := by kernel_rfl
theorem gSynType : (Tryz.prog.globals[3]?).map (·.type) = some 135 := by kernel_rfl
theorem star_name : "*" ++ "errors.errorString" = "*errors.errorString" := by decide
theorem err_name (u : TypeId) (h : Tryz.prog.typeName? 3 u = some "*errors.errorString") : u = 278 :=
 typeName_ptr_named (nm := "errors.errorString") (by rw [star_name]; kernel_rfl) (by kernel_rfl) (by decide) u (by rw [star_name]; exact h)
theorem range_of {W : World} (h : laidMet Tryz.prog laidAll W) : ∃ tp p, W.var? Tryz.prog "strconv.ErrRange" = some #[.iface tp p] := by
 have h2 := laidMet.tail (laidMet.tail (laidMet.tail (laidMet.tail h)))
 obtain ⟨a, s, hv, _⟩ := laid_sentinel h2 gRange gRangeType Tryz.underlying135 err_name Tryz.underlying278 Tryz.underlying280 rfl rfl Tryz.underlying9 (by kernel_rfl) (by kernel_rfl)
 exact ⟨_, _, hv⟩
theorem syn_of {W : World} (h : laidMet Tryz.prog laidAll W) : ∃ tp p, W.var? Tryz.prog "strconv.ErrSyntax" = some #[.iface tp p] := by
 have h2 := laidMet.tail (laidMet.tail (laidMet.tail (laidMet.tail (laidMet.tail h))))
 obtain ⟨a, s, hv, _⟩ := laid_sentinel h2 gSyn gSynType Tryz.underlying135 err_name Tryz.underlying278 Tryz.underlying280 rfl rfl Tryz.underlying9 (by kernel_rfl) (by kernel_rfl)
 exact ⟨_, _, hv⟩
theorem size_of {W : World} (h : W.ShapedOpen Tryz.prog) : Tryz.prog.globals.size ≤ W.heap.size := by
 have e : Tryz.prog.globals.size = (Tryz.prog.globals.size - 1) + 1 := by kernel_rfl
 have hs : (((begin Tryz.prog (fun _ _ => 0) default).world.heap[Tryz.prog.globals.size - 1]?).bind Obj.row?).isSome = true := by kernel_rfl
 obtain ⟨⟨zero, t⟩, h0⟩ := Option.isSome_iff_exists.1 hs
 obtain ⟨cs, h1, _⟩ := h.1 (Tryz.prog.globals.size - 1) zero t (by omega) h0
 have := (Array.getElem?_eq_some_iff.1 h1).1
 omega
theorem maxLen_of {W : World} (h : W.ShapedOpen Tryz.prog) : ∃ m, W.cell? ⟨2, 0, none⟩ = some (.int .i64 m) :=
 cell_of_shapedOpen_int h (of_decide_eq_true (by kernel_rfl)) (show ((begin Tryz.prog (fun _ _ => 0) default).world.heap[2]?).bind Obj.row? = some (#[.int .i64 0], 3) by kernel_rfl) rfl (by kernel_rfl) (by kernel_rfl) Tryz.underlying3
theorem utf_of {W : World} (h : laidMet Tryz.prog laidAll W) : Lib.Utf8Tabs 0 1 W := by
 have h3 := Lib.laidMet.reads h (.tail _ (.tail _ (.tail _ (.tail _ (.tail _ (.tail _ (.head _)))))))
 have h4 := Lib.laidMet.reads h (.tail _ (.tail _ (.tail _ (.head _))))
 rw [show Rows.laid_unicode_utf8_first = Lib.firstData from Pinned.utf8First_eq] at h3
 rw [show Rows.laid_unicode_utf8_acceptRanges (H := Unit) = Lib.acceptData from by kernel_rfl] at h4
 exact utf8Tabs_of_readsT (ρ := Tryz.lays161_ren) { Tryz.lays161 with } ⟨by kernel_rfl, by kernel_rfl, by kernel_rfl, by kernel_rfl, by kernel_rfl, by kernel_rfl, by kernel_rfl⟩ h3 h4
theorem var_cell {W : World} {n : String} {tp : TypeId} {q : Value} (h : W.var? Tryz.prog n = some #[.iface tp q]) {g : Nat} (hg : Tryz.prog.globalNamed n = some g) : W.cell? ⟨g, 0, none⟩ = some (.iface tp q) := by
 have := World.var?_cell hg h 0
 simpa using this
theorem env_of {W : World} (h : laidMet Tryz.prog laidAll W) (hs : W.ShapedOpen Tryz.prog) : EnvJ W := by
 have hz := size_of hs
 have hg : 5 ≤ Tryz.prog.globals.size := by decide +kernel
 obtain ⟨t1, q1, h1⟩ := range_of h
 obtain ⟨t2, q2, h2⟩ := syn_of h
 exact ⟨maxLen_of hs, ⟨⟨_, var_cell h2 gSyn, .inr ⟨_, _, rfl⟩⟩, ⟨_, var_cell h1 gRange, .inr ⟨_, _, rfl⟩⟩, by omega⟩, tab_of h, utf_of h⟩
noncomputable def laidWorld (os : Os) : World := World.laidAll Tryz.prog os laidAll
theorem laid_met (os : Os) (args : Array Value) : laidMet Tryz.prog laidAll ((laidWorld os).forCall (fun _ _ => 0) ⟨#[], args, []⟩).memory :=
 laidMet_laidAll args (by kernel_rfl) (by kernel_rfl)
theorem laid_os (os : Os) : (laidWorld os).os = os := World.laidAll_os _ _ _
theorem laid_zip (os : Os) (args : Array Value) : ((laidWorld os).forCall (fun _ _ => 0) ⟨#[], args, []⟩).variablesZipB Tryz.checked.prog = true := by kernel_rfl
theorem laid_rest (os : Os) (args : Array Value) : (((laidWorld os).forCall (fun _ _ => 0) ⟨#[], args, []⟩).heap.toList.drop Tryz.checked.prog.globals.size).take ((begin Tryz.checked.prog (fun _ _ => 0) default).world.heap.size - Tryz.checked.prog.globals.size) =
   (begin Tryz.checked.prog (fun _ _ => 0) default).world.heap.toList.drop Tryz.checked.prog.globals.size := by kernel_rfl
theorem witness_zip {H : Type} {enc : TypeId × Value → H} {C : Checked} {os : Os} {f : FuncId} {fn : Func} {s : OpenSpec} {conds : List PathCond} {apart : Bool} {laid : List (String × DataW Unit)} (modest : Bool) (w0 : World) (args : Array Value) (hos : w0.os = os)
  (hsh : (w0.forCall (fun _ _ => 0) ⟨#[], args, []⟩).Shaped C.prog)
  (hok : Input.okWideB C.prog (w0.forCall (fun _ _ => 0) ⟨#[], args, []⟩) f ⟨#[], args, []⟩ = true)
  (hrow : s.preRow enc C.prog fn conds apart laid (w0.forCall (fun _ _ => 0) ⟨#[], args, []⟩).memory args) :
  ∃ (w : World) (tape : Tape) (i : Input), w.os = os ∧ (w.forCall tape i).Shaped C.prog ∧ i.vars = [] ∧ Input.okWide C.prog (w.forCall tape i) .any w.heap.size f i ∧
   s.preRow enc C.prog fn conds apart laid (w.forCall tape i).memory i.args ∧ ({ modest := modest } : Assume).holds C.prog (lone (Frame.enter C.prog f i.args .normal) [] (w.forCall tape i)) :=
 ⟨w0, fun _ _ => 0, ⟨#[], args, []⟩, hos, hsh, (Input.okWide_of_okWideB (base := 0) hok).1, (Input.okWide_of_okWideB hok).2, hrow, by
  simp only [Assume.holds]
  exact ⟨by simp, by simp, fun _ => Modest.zero, by simp, by simp⟩⟩
theorem laid_shaped (os : Os) (args : Array Value) : ((laidWorld os).forCall (fun _ _ => 0) ⟨#[], args, []⟩).Shaped Tryz.checked.prog := World.shaped_of_ZipB (laid_zip os args) (laid_rest os args)
open Go.ChangeShapes Go.WideShapes Go.ChangeAt Go.RowKit
set_option maxRecDepth 100000
theorem laid_out : laidOutB Tryz.prog = true := by kernel_rfl
theorem cellsU8 : Tryz.prog.cellsOf 5 = 1 := by kernel_rfl
theorem cell_byts {H : Type} {enc : TypeId × Value → H} {W : World} {r : Reach} {b0 base : Nat} {sp : Nat → Bool} {held : Bool} {n : Nat} {v : Value} {y : DataW H × List MemPlace}
  (hv : Cell.okWide Tryz.prog W r b0 22 v) (h : DataW.trod enc Tryz.prog W base sp held n 22 [v] = some y) : ∃ l, BytS W v l := by
 rcases Go.ChangeShapes.open_ints Tryz.underlying22 Tryz.underlying5 cellsU8 h with ⟨hn, _⟩ | ⟨a, len, cap, zs, hc, _, hl, hm, hlen, _, hcell, hwf⟩
 ·simp only [List.cons.injEq, and_true] at hn
  exact ⟨[], .inl ⟨hn, rfl⟩⟩
 ·simp only [List.cons.injEq, and_true] at hc
  subst hc
  simp only [Cell.okWide, Cell.ok, Tryz.underlying22, World.has] at hv
  obtain ⟨_, _, _, hs, row, cells, hsh, _⟩ := hv
  obtain ⟨b, off, s⟩ := a
  simp only at hs hsh
  subst hs
  have hzl : len ≤ zs.length := by rw [hlen]; split <;> omega
  have hll : ((zs.take len).map (fun z : Int => UInt8.ofNat z.toNat)).length = len := by simp; omega
  refine ⟨(zs.take len).map (fun z => UInt8.ofNat z.toNat), .inr ⟨b, off, cap, by rw [hll], by omega, by omega, ?_, fun j hj => ?_⟩⟩
  ·unfold World.shape? at hsh
   rcases Nat.lt_or_ge b W.heap.size with h9 | h9
   ·exact h9
   rw [Array.getElem?_eq_none h9] at hsh; cases hsh
  rw [hll] at hj
  have h1 := hcell j (by omega)
  rw [addr_off rfl] at h1
  rw [h1]
  have hz : (zs.getD j 0) ∈ zs := by
   rw [List.getD_eq_getElem?_getD, List.getElem?_eq_getElem (show j < zs.length by omega)]
   exact List.getElem_mem _
  have hw := hwf _ hz
  obtain ⟨z, hzz⟩ : ∃ z, zs.getD j 0 = z := ⟨_, rfl⟩
  have e9 : ((zs.take len).map (fun z : Int => UInt8.ofNat z.toNat)).getD j 0 = UInt8.ofNat z.toNat := by
   rw [← hzz]
   simp [hj, List.getElem?_eq_getElem (show j < zs.length by omega)]
  rw [e9, hzz]
  rw [hzz] at hw
  have hb : 0 ≤ z ∧ z < 256 := by
   simp [Lit.wf, IntKind.min, IntKind.max, IntKind.signed, IntKind.bits] at hw
   omega
  have e8 : ((UInt8.ofNat z.toNat).toNat : Int) = z := by
   rw [UInt8.toNat_ofNat_of_lt' (by show z.toNat < 256; omega)]
   omega
  rw [e8]
theorem open_byts {H : Type} {enc : TypeId × Value → H} {W : World} {r : Reach} {b0 base : Nat} {sp : Nat → Bool} {held : Bool} {v : Value} {x : DataW H} {p : List MemPlace}
  (hv : Value.okWide Tryz.prog W r b0 22 v) (h : DataW.Trod enc Tryz.prog W base sp held 22 v x p) : ∃ l, BytS W v l := by
 obtain ⟨a, len, cap, rfl⟩ := okWide_slice Tryz.underlying22 hv
 obtain ⟨fuel, hf⟩ := h
 have hc : Cell.okWide Tryz.prog W r b0 22 (.slice a len cap) := by
  simp only [Value.okWide, Tryz.underlying22] at hv
  exact hv
 exact cell_byts hc hf
end Go.Proofs.YtfclfaidmipjpaaGreatDoor
