/- JSONWalk returns true at any value whose bulk is 1048576 at most, and leaves it as it was, in every world whose listed variables hold what the program text lays (the tied card). -/
import Derived.Test.YtfclfaidmipjpaaGreatDoorWa04
namespace Go.Proofs.YtfclfaidmipjpaaGreatDoor
set_option maxRecDepth 100000
set_option maxHeartbeats 20000000
open Go.Lib (hid)
open Go.RowKit
theorem jwalk_calls (w : World) (he : EnvJ w) (r0 : JR) (hj : JV w (fun _ => True) r0) (hsz : szJ r0.1 ≤ 4000000) : Calls Tryz.prog 5 #[jval r0] w fun e w' => e = .returned (.bool true) ∧ Below w.heap.size w w' := by
 have HE := hid he
 have HJ0 := hid hj
 have HSZ : Hid (szJ r0.1 ≤ 20000000) := hid (Nat.le_trans hsz (by decide))
 have HS4 := hid hsz
 clear he hj hsz
 go_enter Tryz.func5, Tryz.ntmps5
 have HB : Hid (Below w.heap.size w w) := hid (Below.refl _ _)
 go_upto_region 1 with (refine wpList_boxJ rfl _ rfl r0 rfl ?_; intro wb1 hBx)
 have hb : Below w.heap.size w wb1 := hBx.be
 have hrow := hBx.row
 obtain ⟨g0, hg⟩ : ∃ g, w.heap.size = g := ⟨_, rfl⟩
 rw [hg] at hrow ⊢
 have HV0 := hid hrow
 clear hBx hg hrow
 replace HE := hid (HE.out.below hb (Nat.le_refl _))
 replace HJ0 := hid (HJ0.out.bel hb)
 replace HB := hid (HB.out.trans (hb.mono HB.out.size))
 clear hb
 go_wp2_with (first | refine wpList_loadJ rfl _ rfl r0 HV0.out rfl ?_ | (refine wpList_buildJ rfl _ rfl r0 rfl ?_; intro w2 hBx))
 have hb : Below wb1.heap.size wb1 w2 := hBx.be
 have hrs := RowsJ.one hBx
 clear hBx
 replace HE := hid (HE.out.below hb (Nat.le_refl _))
 replace HJ0 := hid (HJ0.out.bel hb)
 replace HV0 := hid (HV0.out.below hb)
 replace HB := hid (HB.out.trans (hb.mono HB.out.size))
 clear hb
 refine (small_calls w2 _ [r0] hrs (fun r hr => by rw [List.mem_singleton.1 hr]; exact ⟨_, HJ0.out⟩) (fun r hr => by rw [List.mem_singleton.1 hr]; exact HSZ.out) (by simp)).mono ?_
 rintro e w3 ⟨bs, rfl, hb⟩
 clear hrs
 replace HE := hid (HE.out.below hb (Nat.le_refl _))
 replace HJ0 := hid (HJ0.out.bel hb)
 replace HV0 := hid (HV0.out.below hb)
 replace HB := hid (HB.out.trans (hb.mono HB.out.size))
 clear hb
 cases bs with
 | false =>
  go_wp2_with fail
  refine (works_calls w3 HE.out).mono ?_
  rintro e w2 ⟨rfl, hb⟩
  replace HE := hid (HE.out.below hb (Nat.le_refl _))
  replace HJ0 := hid (HJ0.out.bel hb)
  replace HV0 := hid (HV0.out.below hb)
  replace HB := hid (HB.out.trans (hb.mono HB.out.size))
  clear hb
  go_wp2_with fail
  go_ret
  exact ⟨rfl, HB.out⟩
 | true =>
  go_wp2_with (refine wpList_loadJ rfl _ rfl r0 HV0.out rfl ?_)
  obtain ⟨m9, hm9⟩ := HE.out.ml
  have hpt := pointer_calls (r1 := r0) HJ0.out HE.out.tab HE.out.errs HE.out.utf m9 hm9 w3 (Below.refl _ _) HSZ.out [] (by simp)
  refine hpt.mono ?_
  rintro e w3 ⟨lx, nx, rfl, hj, hb⟩
  clear hpt hm9
  obtain ⟨⟨X, ec⟩, hX⟩ : ∃ q, ptrJ r0.1 [] = q := ⟨_, rfl⟩
  have HQ := hid hX
  rw [hX] at hj ⊢
  clear hX
  dsimp only at hj ⊢
  obtain ⟨rx, hr⟩ : ∃ r : JR, (X, lx, nx) = r := ⟨_, rfl⟩
  have HRX : Hid (rx.1 = X) := hid (by rw [← hr])
  rw [hr] at hj ⊢
  have HJX := hid hj
  clear hr hj
  replace HE := hid (HE.out.below hb (Nat.le_refl _))
  replace HJ0 := hid (HJ0.out.bel hb)
  replace HV0 := hid (HV0.out.below hb)
  replace HB := hid (HB.out.trans (hb.mono HB.out.size))
  clear hb
  go_upto_region 4 with (first | (refine wpList_allocJ rfl rfl ?_; intro wa4 hBx) | (refine wpList_storeJ rfl _ _ rfl rfl hBx.row rfl rx HJX.out.slJ rfl rfl ?_; intro wS4 hSx))
  have hb : Below w3.heap.size w3 wS4 := hSx.below hBx.be (Nat.le_refl _) hBx.be.size
  have hrow := hSx.row
  obtain ⟨gx, hg⟩ : ∃ g, w3.heap.size = g := ⟨_, rfl⟩
  rw [hg] at hrow ⊢
  have HVX := hid hrow
  clear hSx hBx hg hrow
  replace HE := hid (HE.out.below hb (Nat.le_refl _))
  replace HJ0 := hid (HJ0.out.bel hb)
  replace HV0 := hid (HV0.out.below hb)
  replace HJX := hid (HJX.out.bel hb)
  replace HB := hid (HB.out.trans (hb.mono HB.out.size))
  clear hb
  go_wp2_with (refine wpList_loadJ rfl _ rfl r0 HV0.out rfl ?_)
  refine (checkJ_calls (r1 := r0) HJ0.out HE.out.tab HE.out.utf wS4 (Below.refl _ _) HSZ.out).mono ?_
  rintro e w5 ⟨rfl, hb⟩
  obtain ⟨c0, hc0⟩ : ∃ c, checkJ r0.1 = c := ⟨_, rfl⟩
  have HC0 := hid hc0
  rw [hc0]
  clear hc0
  replace HE := hid (HE.out.below hb (Nat.le_refl _))
  replace HJ0 := hid (HJ0.out.bel hb)
  replace HV0 := hid (HV0.out.below hb)
  replace HJX := hid (HJX.out.bel hb)
  replace HVX := hid (HVX.out.below hb)
  replace HB := hid (HB.out.trans (hb.mono HB.out.size))
  clear hb
  go_wp2_with fail
  refine (num_calls _ w5).mono ?_
  rintro e wq9 ⟨rfl, rfl⟩
  by_cases hc : c0 = 0
  rotate_left
  ·
   have n1 : ((c0 : Int) != 0) = true := by rw [bne_iff_ne]; exact hc
   have HEC : Hid (ec = 2) := hid (by
    have h := HQ.out
    unfold ptrJ at h
    rw [if_pos (by rw [HC0.out]; exact hc)] at h
    injection h with h1 h2
    exact h2.symm)
   obtain rfl : ec = 2 := HEC.out
   clear hc
   go_wp2_with fail
   refine (num_calls _ w5).mono ?_
   rintro e wq9 ⟨rfl, rfl⟩
   go_wp2_with fail
   refine (works_calls w5 HE.out).mono ?_
   rintro e w6 ⟨rfl, hb⟩
   replace HE := hid (HE.out.below hb (Nat.le_refl _))
   replace HJ0 := hid (HJ0.out.bel hb)
   replace HV0 := hid (HV0.out.below hb)
   replace HJX := hid (HJX.out.bel hb)
   replace HVX := hid (HVX.out.below hb)
   replace HB := hid (HB.out.trans (hb.mono HB.out.size))
   clear hb
   go_wp2_with fail
   go_ret
   exact ⟨rfl, HB.out⟩
  subst hc
  have HXE : Hid (X = r0.1 ∧ ec = 0) := hid (by
   have h := HQ.out
   rw [rpt_same HC0.out HSZ.out] at h
   injection h with h1 h2
   exact ⟨h1.symm, h2.symm⟩)
  obtain rfl : ec = 0 := HXE.out.2
  go_wp2_with fail
  refine (num_calls _ w5).mono ?_
  rintro e wq9 ⟨rfl, rfl⟩
  have k0 : w5.cell? ⟨gx, 0, none⟩ = some (.int .i64 rx.1.kind) := HVX.out.cell 0 _ rfl
  have k1 : w5.cell? ⟨gx, 1, none⟩ = some (.bool rx.1.b) := HVX.out.cell 1 _ rfl
  have k2 : w5.cell? ⟨gx, 2, none⟩ = some (.bool rx.1.n.neg) := HVX.out.cell 2 _ rfl
  have k3 : w5.cell? ⟨gx, 3, none⟩ = some (.string ⟨rx.1.n.digits.toArray⟩) := HVX.out.cell 3 _ rfl
  have k4 : w5.cell? ⟨gx, 4, none⟩ = some (.int .i64 rx.1.n.exp) := HVX.out.cell 4 _ rfl
  have k5 : w5.cell? ⟨gx, 5, none⟩ = some (.string ⟨rx.1.t.toArray⟩) := HVX.out.cell 5 _ rfl
  have k6 : w5.cell? ⟨gx, 6, none⟩ = some (rx.2.1) := HVX.out.cell 6 _ rfl
  have k7 : w5.cell? ⟨gx, 7, none⟩ = some (rx.2.2) := HVX.out.cell 7 _ rfl
  have q0 : w5.cell? ⟨g0, 0, none⟩ = some (.int .i64 r0.1.kind) := HV0.out.cell 0 _ rfl
  have q1 : w5.cell? ⟨g0, 1, none⟩ = some (.bool r0.1.b) := HV0.out.cell 1 _ rfl
  have q2 : w5.cell? ⟨g0, 2, none⟩ = some (.bool r0.1.n.neg) := HV0.out.cell 2 _ rfl
  have q3 : w5.cell? ⟨g0, 3, none⟩ = some (.string ⟨r0.1.n.digits.toArray⟩) := HV0.out.cell 3 _ rfl
  have q4 : w5.cell? ⟨g0, 4, none⟩ = some (.int .i64 r0.1.n.exp) := HV0.out.cell 4 _ rfl
  have q5 : w5.cell? ⟨g0, 5, none⟩ = some (.string ⟨r0.1.t.toArray⟩) := HV0.out.cell 5 _ rfl
  have q6 : w5.cell? ⟨g0, 6, none⟩ = some (r0.2.1) := HV0.out.cell 6 _ rfl
  have q7 : w5.cell? ⟨g0, 7, none⟩ = some (r0.2.2) := HV0.out.cell 7 _ rfl
  go_wp2_with fail
  refine (sameL_calls HJX.out _ r0 w5 (Below.refl _ _) HJ0.out).mono ?_
  rintro e w7 ⟨bb, rfl, hbb, hb⟩
  obtain rfl : bb = true := hbb.2 (by rw [HRX.out, HXE.out.1])
  clear hbb
  clear k0 k1 k2 k3 k4 k5 k6 k7 q0 q1 q2 q3 q4 q5 q6 q7
  replace HE := hid (HE.out.below hb (Nat.le_refl _))
  replace HJ0 := hid (HJ0.out.bel hb)
  replace HV0 := hid (HV0.out.below hb)
  replace HJX := hid (HJX.out.bel hb)
  replace HVX := hid (HVX.out.below hb)
  replace HB := hid (HB.out.trans (hb.mono HB.out.size))
  clear hb
  have q0 : w7.cell? ⟨g0, 0, none⟩ = some (.int .i64 r0.1.kind) := HV0.out.cell 0 _ rfl
  have q1 : w7.cell? ⟨g0, 1, none⟩ = some (.bool r0.1.b) := HV0.out.cell 1 _ rfl
  have q2 : w7.cell? ⟨g0, 2, none⟩ = some (.bool r0.1.n.neg) := HV0.out.cell 2 _ rfl
  have q3 : w7.cell? ⟨g0, 3, none⟩ = some (.string ⟨r0.1.n.digits.toArray⟩) := HV0.out.cell 3 _ rfl
  have q4 : w7.cell? ⟨g0, 4, none⟩ = some (.int .i64 r0.1.n.exp) := HV0.out.cell 4 _ rfl
  have q5 : w7.cell? ⟨g0, 5, none⟩ = some (.string ⟨r0.1.t.toArray⟩) := HV0.out.cell 5 _ rfl
  have q6 : w7.cell? ⟨g0, 6, none⟩ = some (r0.2.1) := HV0.out.cell 6 _ rfl
  have q7 : w7.cell? ⟨g0, 7, none⟩ = some (r0.2.2) := HV0.out.cell 7 _ rfl
  go_wp2_with fail
  clear q0 q1 q2 q3 q4 q5 q6 q7
  refine (walk_all HJ0.out HE.out HC0.out HS4.out (szJ r0.1) w7 _ r0 [] 200 (Nat.le_refl _) (Below.refl _ _) HJ0.out HC0.out rfl (by have := HS4.out; show 0 + 20 * szJ r0.1 ≤ 80000000; omega) (by decide) (by decide)).mono ?_
  rintro e w8 ⟨k, rfl, hk0, hk2, hb⟩
  replace HE := hid (HE.out.below hb (Nat.le_refl _))
  replace HJ0 := hid (HJ0.out.bel hb)
  replace HV0 := hid (HV0.out.below hb)
  replace HJX := hid (HJX.out.bel hb)
  replace HVX := hid (HVX.out.below hb)
  replace HB := hid (HB.out.trans (hb.mono HB.out.size))
  clear hb
  go_wp2_with fail
  refine (works_calls w8 HE.out).mono ?_
  rintro e w9 ⟨rfl, hb⟩
  replace HE := hid (HE.out.below hb (Nat.le_refl _))
  replace HJ0 := hid (HJ0.out.bel hb)
  replace HV0 := hid (HV0.out.below hb)
  replace HJX := hid (HJX.out.bel hb)
  replace HVX := hid (HVX.out.below hb)
  replace HB := hid (HB.out.trans (hb.mono HB.out.size))
  clear hb
  go_wp2_with fail
  go_ret
  exact ⟨rfl, HB.out⟩
open Go.ChangeShapes Go.WideShapes Go.ChangeAt Go.RowKit
open Go.ChangeMaps (open_string shut_string)
theorem jwalk_laid : Rows.jSONWalkUptoRow.laid = laidAll := by rfl
theorem jwalk_contract (H : Type) (enc : TypeId × Value → H) (W : World) (base : Nat) (args : Array Value) (ds gs : List (DataW H)) (before : List MemPlace)
  (hval : ∀ (j : Nat) t v, Tryz.f5.params[j]? = some t → args[j]? = some v → Value.okWide Tryz.prog W .any base t v)
  (hW : DataW.Whole enc Tryz.prog Tryz.f5.params.toList Rows.jSONWalkSpec.vars false W args.toList ds gs before) (hL : laidMetH Tryz.prog laidAll W) (hsh : W.ShapedOpen Tryz.prog) (hk : Rows.uptoSmall H (ds ++ gs) = true) :
  Calls Tryz.prog 5 args W fun e W' => ∃ v, e = .returned v ∧ Rows.jSONWalkSpec.post enc Tryz.prog Tryz.f5 false true false false W args v W' := by
 have hW' := hW
 obtain ⟨p, q, hA0, hV, rfl, hfz, hnd⟩ := hW
 have hA : DataW.TrodAll enc Tryz.prog W 0 (fun _ => true) true Tryz.f5.params.toList args.toList ds p := hA0
 rw [Tryz.params5] at hA hval
 obtain ⟨v0, vs0, d0, ds0, p0, q0, hargs, rfl, rfl, h0, r0⟩ := trodAll_cons hA
 obtain ⟨rfl, rfl, rfl⟩ := trodAll_nil r0
 obtain rfl : args = #[v0] := by cases args; simp_all
 obtain ⟨rfl, rfl⟩ := trodVars_none hV
 have hlt0 : ∀ x ∈ p0, x.block < W.heap.size := fun x hx => by have h9 := hW'.lt x (by simp [hx]); simpa using h9
 obtain ⟨q0j, rfl, hx0, hn0⟩ := open_json (hval 0 30 v0 rfl rfl) h0
 have hk1 := of_decide_eq_true hk
 simp only [Rows.uptoBulkAll, List.append_nil] at hk1
 clear hA0
 refine (jwalk_calls W (env_of hL hsh) q0j hx0 (by omega)).mono fun e W' ⟨he, hb⟩ => ?_
 subst he
 exact ⟨_, rfl, _, _, _, [], _, [], hW', trodAll_cons_mk (shut_bool Tryz.underlying4 _) trodAll_mk0, trodAll_cons_mk (Below.trod laid_out (by kernel_rfl) (of_decide_eq_true (by kernel_rfl)) h0 hb hlt0) (trodAll_mk0), rfl, hb.frame _, fun h => by cases h⟩
def jwalkArgs : Array Value := #[.agg #[.int .i64 0, .bool false, .bool false, .string ⟨#[]⟩, .int .i64 0, .string ⟨#[]⟩, .slice none 0 0, .slice none 0 0]]
theorem jwalk_reads (os : Os) {H : Type} (enc : TypeId × Value → H) : ∃ places, DataW.whole enc Tryz.prog ((laidWorld os).forCall (fun _ _ => 0) ⟨#[], jwalkArgs, []⟩).memory Tryz.f5.params.toList Rows.jSONWalkSpec.vars false jwalkArgs.toList 8 = some ([.agg [.lit (.int .i64 0), .lit (.bool false), .agg [.lit (.bool false), .lit (.string []), .lit (.int .i64 0)], .lit (.string []), .nil, .nil]], [], places) :=
 ⟨[], by kernel_rfl⟩
theorem jwalk_lifted (os : Os) (started : os.Started) (H : Type) (enc : TypeId × Value → H) (F : Stop.Interp) :
  ReturnsInHanded {} Tryz.checked os 5 .any ((Rows.OpenSpec.upto Rows.jSONWalkSpec).preRow enc Tryz.prog Tryz.f5 Rows.jSONWalkUptoRow.domain false Rows.jSONWalkUptoRow.laid) (((Rows.OpenSpec.upto Rows.jSONWalkSpec).at F).post enc Tryz.prog Tryz.f5 false true false false) := by
 obtain ⟨places, hx⟩ := jwalk_reads os enc
 refine returnsInHanded_of_row (C := Tryz.checked) (s := Rows.OpenSpec.upto Rows.jSONWalkSpec) frmOwn started (by kernel_rfl) Tryz.func5
  (witness_zip (enc := enc) (C := Tryz.checked) false (laidWorld os) jwalkArgs (laid_os os) (laid_shaped os _) (by kernel_rfl)
   (OpenSpec.preRow_of_cond 8 hx (by kernel_rfl) (fun k hk => by cases hk; kernel_rfl) (by kernel_rfl) (laid_met os _))) ?_
 intro W base args ds gs before hval hW _ hcond _ hL hsh _
 exact jwalk_contract H enc W base args ds gs before hval hW hL hsh (hcond _ rfl)
theorem jwalk_in : (Rows.jSONWalkUptoRow.inPlace == Tryz.pinned.checked.prog.inPlace 5) = true := by kernel_rfl
theorem jwalk_un : (Rows.jSONWalkUptoRow.unfollowed == Tryz.pinned.checked.prog.unfollowed 5) = true := by kernel_rfl
theorem jwalk_re : (Rows.jSONWalkUptoRow.recurses == Tryz.pinned.checked.prog.recurses 5) = true := by kernel_rfl
theorem jwalk_na : (Rows.jSONWalkUptoRow.named == Tryz.pinned.checked.prog.varsNamed 5) = true := by kernel_rfl
theorem jwalk_facts : joinedFacts Tryz.pinned.checked.prog 5 Tryz.f5 (Rows.OpenSpec.upto Rows.jSONWalkSpec).bare Rows.jSONWalkUptoRow = true := by
 unfold joinedFacts
 rw [jwalk_in, jwalk_un, jwalk_re, jwalk_na]
 kernel_rfl
theorem jwalk_said : Rows.JSONWalkUptoSaid :=
 OpenClaim.holds_of_cond 5 Tryz.f5 rfl rfl rfl rfl rfl rfl rfl ⟨rfl, rfl, rfl, rfl, rfl⟩ rfl rfl rfl rfl rfl (by kernel_rfl) Tryz.func5 jwalk_facts
  (of_decide_eq_true (by as_aux_lemma => kernel_rfl)) (by unfold Func.isWrapper; first | (rw [if_pos (by decide +kernel)]; kernel_rfl) | (rw [if_neg (by decide +kernel)]; exact ⟨rfl, rfl⟩))
  (fun os started H enc _ F => by rw [OpenClaim.pre_eq_preRow]; exact jwalk_lifted os started H enc F)
theorem jwalk_plain (f : FuncId) (fn : Func) (hf : Tryz.pinned.checked.prog.funcNamed "lexicon/lexiconlaw08.JSONWalk" = some f) (hfn : Tryz.pinned.checked.prog.funcs[f]? = some fn) :
  true = Tryz.pinned.checked.prog.looks [] ∧ ∀ (j : Nat) t, fn.params[j]? = some t → Tryz.pinned.checked.prog.wantsStandIn t = false := by
 obtain rfl : f = 5 := Option.some.inj ((show Tryz.prog.funcNamed "lexicon/lexiconlaw08.JSONWalk" = some 5 by kernel_rfl).symm.trans hf) |>.symm
 obtain rfl : fn = Tryz.f5 := (Option.some.inj (Tryz.func5.symm.trans hfn)).symm
 refine ⟨by kernel_rfl, fun j t ht => ?_⟩
 rw [Tryz.params5] at ht
 have : t = 30 := by simpa using Array.mem_of_getElem? ht
 subst this
 exact (show Tryz.prog.wantsStandIn 30 = false by kernel_rfl)
theorem jSONWalk_proved : Rows.JSONWalkUptoCardSaid :=
 Claim7.holds_tied_plain_at .later [] _ _ _ _ jwalk_said (fun _ h => by cases h) (by kernel_rfl) (fun _ h => by cases h) jSONWalkUpto_row_tie rfl ⟨rfl, rfl⟩ (by kernel_rfl) rfl jwalk_plain (by kernel_rfl)
end Go.Proofs.YtfclfaidmipjpaaGreatDoor
