/- Texts of this claim, joined: Kkp, Rfe. -/
import Derived.RangeFuncNested
import Derived.RangeFuncBound
import Derived.Test.YtfclfaidmipjpaaGreatDoorPa08
namespace Go.Proofs.YtfclfaidmipjpaaGreatDoor
set_option maxRecDepth 100000
set_option maxHeartbeats 20000000
open Go.Lib (hid)
open Go.RowKit
def KepTo (w : World) (e : Ending) (w' : World) : Prop := e = .returned (.bool true) ∧ Below w.heap.size w w'
theorem kept_calls {w0 : World} {S1 : Nat → Prop} {r1 : JR} (h1 : KV w0 S1 r1) : ∀ (S2 : Nat → Prop) (r2 : JR) (w : World), Below w0.heap.size w0 w → JV w S2 r2 → r1.1 = r2.1 → szJ r1.1 ≤ 20000000 → Calls Tryz.prog 22 #[jval r1, jval r2] w (KepTo w) := by
 induction h1 with
 | mk v rs g c q e hl hv hn hg hq hs ih =>
  intro S2 r2 w hb h2 heq hsz
  obtain ⟨v2, lv2, nv2⟩ := r2
  change v = v2 at heq
  subst heq
  have hK : KV w0 S1 (v, .slice (some ⟨g, 0, none⟩) rs.length c, .slice (some ⟨q, 0, none⟩) v.ns.length e) := .mk v rs g c q e hl hv hn hg hq hs
  have hJ2 := h2
  obtain ⟨k, b, n, t, l, ns⟩ := v
  simp only [J.l] at hv
  simp only [szJ] at hsz
  have hln : l.length ≤ 20000000 := by have := szL_len l; omega
  have hnn : ns.length ≤ 20000000 := by have := szN_len ns; omega
  have hrl : rs.length = l.length := by rw [hv, List.length_map]
  cases h2 with
  | mk _ ys hn2 hl2 hs2 =>
   obtain ⟨p2, c2, hp2, _, _, hL2⟩ := hl2
   change lv2 = Value.slice p2 l.length c2 at hp2
   obtain ⟨q2, e2, hq2, _, _, _⟩ := hn2
   change nv2 = Value.slice q2 ns.length e2 at hq2
   subst hp2 hq2
   simp only [J.l] at hL2 hs2
   have hnine := KV.nine hK
   obtain ⟨g9, c9, q9, e9, e91, e92, hc9, he9, _, _, hni, hsp⟩ := hnine
   simp only [J.l, J.ns] at e91 e92 hc9 he9 hni hsp
   rw [hrl] at e91
   injection e91 with x1 _ x3
   injection x1 with x1
   injection x1 with x1 _ _
   subst x1 x3
   injection e92 with x1 _ x3
   injection x1 with x1
   injection x1 with x1 _ _
   subst x1 x3
   have hglt := (World.ownsRow.lt hl g rfl).2
   have hqlt := (World.ownsRow.lt hn q rfl).2
   obtain ⟨R1, hR1⟩ : ∃ R : JR, ((J.mk k b n t l ns, Value.slice (some ⟨g, 0, none⟩) l.length c, Value.slice (some ⟨q, 0, none⟩) ns.length e) : JR) = R := ⟨_, rfl⟩
   obtain ⟨R2, hR2⟩ : ∃ R : JR, ((J.mk k b n t l ns, Value.slice p2 l.length c2, Value.slice q2 ns.length e2) : JR) = R := ⟨_, rfl⟩
   rw [show rs.length = l.length from hrl] at hK ⊢
   change KV w0 S1 (J.mk k b n t l ns, Value.slice (some ⟨g, 0, none⟩) l.length c, Value.slice (some ⟨q, 0, none⟩) ns.length e) at hK
   change Calls _ _ #[jval (J.mk k b n t l ns, Value.slice (some ⟨g, 0, none⟩) l.length c, Value.slice (some ⟨q, 0, none⟩) ns.length e), _] _ _
   have HC1 : Hid (∀ (W : World) (g9 : Nat), RowAt W g9 (jcells R1) → W.cell? ⟨g9, 6, none⟩ = some (Value.slice (some ⟨g, 0, none⟩) l.length c) ∧ W.cell? ⟨g9, 7, none⟩ = some (Value.slice (some ⟨q, 0, none⟩) ns.length e)) := hid (fun W g9 h => by subst hR1; exact ⟨h.cell 6 _ rfl, h.cell 7 _ rfl⟩)
   have HC2 : Hid (∀ (W : World) (g9 : Nat), RowAt W g9 (jcells R2) → W.cell? ⟨g9, 6, none⟩ = some (Value.slice p2 l.length c2) ∧ W.cell? ⟨g9, 7, none⟩ = some (Value.slice q2 ns.length e2)) := hid (fun W g9 h => by subst hR2; exact ⟨h.cell 6 _ rfl, h.cell 7 _ rfl⟩)
   rw [hR1] at hK ⊢
   rw [hR2] at hJ2 ⊢
   have HE12 : Hid (R1.1 = R2.1) := hid (by rw [← hR1, ← hR2])
   have HK1 := hid hK
   have HJ2 := hid hJ2
   have HB := hid hb
   have HNI : Hid (∀ W, Below w0.heap.size w0 W → W.cell? ⟨g, l.length * 8, none⟩ = some (.int .i64 9) ∧ W.cell? ⟨q, ns.length, none⟩ = some (.string ⟨#[115, 112, 97, 114, 101]⟩)) := hid (fun W hW => ⟨(hW.cell (p := ⟨g, l.length * 8, none⟩) hglt).trans (hni 0 _ rfl), (hW.cell (p := ⟨q, ns.length, none⟩) hqlt).trans hsp⟩)
   have HKID : Hid (∀ i x, l[i]? = some x → ∃ (lx nx : Value), (∀ W, Below w0.heap.size w0 W → W.rangeAt g (i * 8) (jcells (x, lx, nx))) ∧ ∀ (S2 : Nat → Prop) (r2 : JR) (W : World), Below w0.heap.size w0 W → JV W S2 r2 → x = r2.1 → szJ x ≤ 20000000 → Calls Tryz.prog 22 #[jval (x, lx, nx), jval r2] W (KepTo W)) := hid (fun i x hx => by
    rw [hv, List.getElem?_map] at hx
    cases hr : rs[i]? with
    | none => rw [hr] at hx; cases hx
    | some r =>
     rw [hr] at hx
     simp only [Option.map_some, Option.some.injEq] at hx
     subst hx
     have hi2 := (List.getElem?_eq_some_iff.1 hr).1
     refine ⟨r.2.1, r.2.2, fun W hW j u hj => ?_, fun S2 r2 W hW hJ he hz => ih r (List.mem_of_getElem? hr) S2 r2 W hW hJ he hz⟩
     have hj8 : j < 8 := (List.getElem?_eq_some_iff.1 hj).1
     rw [hW.cell (p := ⟨g, i * 8 + j, none⟩) hglt, World.ownsRow.cellAt hl (i * 8 + j) (by omega), jrow_at (rs ++ [jnine]) i r (by rw [List.getElem?_append_left hi2, hr]) j hj8]
     exact hj)
   have HL2 := hid hL2
   have HS2 := hid hs2
   have HSZ : Hid (szL l ≤ 20000000) := hid (by omega)
   have HCP : Hid (l.length + 1 ≤ c ∧ ns.length + 1 ≤ e) := hid ⟨hc9, he9⟩
   clear hK hJ2 hb hni hsp hL2 hs2 hsz hl hv hn hg hq hs ih hrl hR1 hR2 hglt hqlt hc9 he9
   try clear rs
   go_enter Tryz.func22, Tryz.ntmps22
   go_upto_region 1 with (first | (refine wpList_boxJ rfl _ rfl R1 rfl ?_; intro w1 hBx1) | (refine wpList_boxJ rfl _ rfl R2 rfl ?_; intro w2 hBx2))
   have hv1 := hBx1.row.below hBx2.be
   have hv2 := hBx2.row
   have HBE : Hid (Below w.heap.size w w2) := hid (hBx2.below hBx1.be hBx1.be.size)
   obtain ⟨gA, hgA⟩ : ∃ x, w.heap.size = x := ⟨_, rfl⟩
   obtain ⟨gB, hgB⟩ : ∃ x, w1.heap.size = x := ⟨_, rfl⟩
   rw [hgA] at hv1
   rw [hgB] at hv2
   try rw [hgA]
   try rw [hgB]
   have HA := hid hv1
   have HBB := hid hv2
   clear hBx1 hBx2 hgA hgB hv1 hv2
   have hw1 : ∀ z : Nat, z ≤ 20000000 → IntKind.i64.wrap ((z : Int) + 1) = ((z + 1 : Nat) : Int) := fun z hz => by rw [IntWalk.i64_in _ (by omega)]; omega
   obtain ⟨l1, hl1⟩ : ∃ x, l.length + 1 = x := ⟨_, rfl⟩
   obtain ⟨n1, hn1⟩ : ∃ x, ns.length + 1 = x := ⟨_, rfl⟩
   have W1 : IntKind.i64.wrap ((l.length : Int) + 1) = (l1 : Int) := by rw [hw1 _ hln, hl1]
   have W2 : IntKind.i64.wrap ((ns.length : Int) + 1) = (n1 : Int) := by rw [hw1 _ hnn, hn1]
   have HL1 := hid hl1
   have HN1 := hid hn1
   clear hw1 hl1 hn1
   have HMK : Hid (∀ W, Below w2.heap.size w2 W → (fun wq => RowAt wq gA (jcells R1) ∧ RowAt wq gB (jcells R2) ∧ wq.cell? ⟨gA, 6, none⟩ = some (Value.slice (some ⟨g, 0, none⟩) l.length c) ∧ wq.cell? ⟨gA, 7, none⟩ = some (Value.slice (some ⟨q, 0, none⟩) ns.length e) ∧ wq.cell? ⟨gB, 6, none⟩ = some (Value.slice p2 l.length c2) ∧ wq.cell? ⟨gB, 7, none⟩ = some (Value.slice q2 ns.length e2) ∧ wq.cell? ⟨g, l.length * 8, none⟩ = some (.int .i64 9) ∧ wq.cell? ⟨q, ns.length, none⟩ = some (.string ⟨#[115, 112, 97, 114, 101]⟩)) W) := hid (fun W h => by
    have ha := HA.out.below h
    have hb := HBB.out.below h
    have hw := HNI.out W (HB.out.trans ((HBE.out.trans (h.mono HBE.out.size)).mono HB.out.size))
    exact ⟨ha, hb, (HC1.out _ _ ha).1, (HC1.out _ _ ha).2, (HC2.out _ _ hb).1, (HC2.out _ _ hb).2, hw.1, hw.2⟩)
   have hlb : (l.length : Int) < (l1 : Int) := by have := HL1.out; omega
   have hnb : (ns.length : Int) < (n1 : Int) := by have := HN1.out; omega
   have hS0 := HMK.out _ (Below.refl w2.heap.size w2).drew
   have HBD : Hid (Below w2.heap.size w2 w2.drew) := hid (Below.refl _ _).drew
   refine wp_region_held_drew (S := (fun wq => RowAt wq gA (jcells R1) ∧ RowAt wq gB (jcells R2) ∧ wq.cell? ⟨gA, 6, none⟩ = some (Value.slice (some ⟨g, 0, none⟩) l.length c) ∧ wq.cell? ⟨gA, 7, none⟩ = some (Value.slice (some ⟨q, 0, none⟩) ns.length e) ∧ wq.cell? ⟨gB, 6, none⟩ = some (Value.slice p2 l.length c2) ∧ wq.cell? ⟨gB, 7, none⟩ = some (Value.slice q2 ns.length e2) ∧ wq.cell? ⟨g, l.length * 8, none⟩ = some (.int .i64 9) ∧ wq.cell? ⟨q, ns.length, none⟩ = some (.string ⟨#[115, 112, 97, 114, 101]⟩))) (by kernel_rfl) hS0 (fun hHeld0 => ?_)
   generalize w2.drew = wd at *
   refine held_tv 0 (jval R1) rfl (fun wq hSq => exec_loadJ _ rfl rfl R1 hSq.1) hHeld0 ?_
   refine held_tv 1 (jval R2) rfl (fun wq hSq => exec_loadJ _ rfl rfl R2 hSq.2.1) hHeld0 ?_
   refine held_st 2 rfl (fun K hK => ?_)
   go_simp
   refine (sameR_calls HK1.out.jv S2 R2 wd (HB.out.trans ((HBE.out.trans (HBD.out.mono HBE.out.size)).mono HB.out.size)) ((HJ2.out.bel HBE.out).bel HBD.out)).mono ?_
   rintro ez w3 ⟨bb, rfl, hbb, hb3⟩
   obtain rfl : bb = true := hbb.2 HE12.out
   have HB3 : Hid (Below w2.heap.size w2 w3) := hid (HBD.out.trans (hb3.mono HBD.out.size))
   clear hbb hb3
   refine hK.out _ _ (HMK.out _ HB3.out) (fun hHeld1 => ?_)
   clear hK K hHeld0
   refine held_ta 3 hHeld1 ?_
   refine held_ta 4 hHeld1 ?_
   refine held_ta 5 hHeld1 ?_
   refine held_ta 6 hHeld1 ?_
   refine held_ta 7 hHeld1 ?_
   refine held_ta 8 hHeld1 ?_
   refine held_ta 9 hHeld1 ?_
   refine held_ta 10 hHeld1 ?_
   refine held_tv 11 (.slice (some ⟨g, 0, none⟩) l1 c) rfl (fun wq hSq => by rw [← sliced_lo g l1 c 8 (by have := HCP.out.1; omega)]; exact exec_slice_h _ _ rfl und_jsons (size_json _) rfl rfl (by have := HCP.out.1; have := HL1.out; omega)) hHeld1 ?_
   refine held_ta 12 hHeld1 ?_
   refine held_ta 13 hHeld1 ?_
   refine held_ta 14 hHeld1 ?_
   refine held_ta 15 hHeld1 ?_
   refine held_ta 16 hHeld1 ?_
   refine held_ta 17 hHeld1 ?_
   refine held_ta 18 hHeld1 ?_
   refine held_ta 19 hHeld1 ?_
   refine held_ta 20 hHeld1 ?_
   refine held_ta 21 hHeld1 ?_
   refine held_ta 22 hHeld1 ?_
   refine held_ta 23 hHeld1 ?_
   refine held_ta 24 hHeld1 ?_
   refine held_ta 25 hHeld1 ?_
   refine held_ta 26 hHeld1 ?_
   refine held_tv 27 (.slice (some ⟨q, 0, none⟩) n1 e) rfl (fun wq hSq => by rw [← sliced_lo q n1 e 1 (by have := HCP.out.2; omega)]; exact exec_slice_h _ _ rfl und_names (size_str _) rfl rfl (by have := HCP.out.2; have := HN1.out; omega)) hHeld1 ?_
   refine held_ta 28 hHeld1 ?_
   refine held_ta 29 hHeld1 ?_
   refine held_ta 30 hHeld1 ?_
   refine held_ta 31 hHeld1 ?_
   refine held_ta 32 hHeld1 ?_
   refine held_ta 33 hHeld1 ?_
   refine held_ta 34 hHeld1 ?_
   refine wpAnyH_done (by kernel_rfl) ?_ _
   clear hHeld1
   have HA3 := hid (HA.out.below HB3.out)
   have HBB3 := hid (HBB.out.below HB3.out)
   have HBE3 : Hid (Below w.heap.size w w3) := hid (HBE.out.trans (HB3.out.mono HBE.out.size))
   clear HA HBB HBE HMK HBD HB3 HNI HK1 HE12 W1 W2 hlb hnb HL1 HN1
   go_wp2_with fail
   go_loopg [5] l.length (fun kk s5 wr => ∃ i : Nat, kk = l.length - i ∧ i ≤ l.length ∧ s5 = .int .i64 (i : Int) ∧ RowAt wr gA (jcells R1) ∧ RowAt wr gB (jcells R2) ∧ Below w.heap.size w wr)
   case atStart => exact ⟨0, rfl, Nat.zero_le _, rfl, HA3.out, HBB3.out, HBE3.out⟩
   obtain ⟨i, hki, hi, rfl, hA, hB, hBe⟩ := hrel
   have Hki := hid hki
   have HA2 := hid hA
   have HB2 := hid hB
   have HBE2 := hid hBe
   clear hki hA hB hBe HA3 HBB3 HBE3
   have ac6 := (HC1.out _ _ HA2.out).1
   have bc6 := (HC2.out _ _ HB2.out).1
   by_cases hlt : i < l.length
   ·
    have hlti : (i : Int) < (l.length : Int) := by omega
    obtain ⟨g2, f2, rfl, _, hg2, hr2⟩ := HL2.out (by omega)
    obtain ⟨x, hx⟩ : ∃ x, l[i]? = some x := ⟨_, List.getElem?_eq_getElem hlt⟩
    obtain ⟨lx, nx, hra, hca⟩ := HKID.out i x hx
    have HX := hid hx
    have hsx := szL_in hx
    have HSX : Hid (szJ x ≤ 20000000) := hid (by have := HSZ.out; omega)
    have HCA := hid hca
    have HRA := hid hra
    have HR2 : Hid (∀ W, Below w.heap.size w W → W.rangeAt g2 (f2 + i * 8) (jcells (x, ys i))) := hid (fun W hW c v hc => by
     have hc8 : c < 8 := (List.getElem?_eq_some_iff.1 hc).1
     rw [hW.cell (p := ⟨g2, f2 + i * 8 + c, none⟩) hg2, hr2 i x hx c hc8]; exact hc)
    clear hx hsx hra hca hg2 hr2
    go_upto_region 6 with fail
    have HMK : Hid (∀ W, Below wr.heap.size wr W → (fun wq => wq.cell? ⟨gA, 6, none⟩ = some (Value.slice (some ⟨g, 0, none⟩) l.length c) ∧ wq.cell? ⟨gB, 6, none⟩ = some (Value.slice (some ⟨g2, f2, none⟩) l.length c2) ∧ wq.rangeAt g (i * 8) (jcells (x, lx, nx)) ∧ wq.rangeAt g2 (f2 + i * 8) (jcells (x, ys i))) W) := hid (fun W h => by
     have hw : Below w.heap.size w W := HBE2.out.trans (h.mono HBE2.out.size)
     exact ⟨(HC1.out _ _ (HA2.out.below h)).1, (HC2.out _ _ (HB2.out.below h)).1, HRA.out W (HB.out.trans (hw.mono HB.out.size)), HR2.out W hw⟩)
    have HBD : Hid (Below wr.heap.size wr wr.drew) := hid (Below.refl _ _).drew
    have hS0 := HMK.out _ HBD.out
    refine wp_region_held_drew (S := (fun wq => wq.cell? ⟨gA, 6, none⟩ = some (Value.slice (some ⟨g, 0, none⟩) l.length c) ∧ wq.cell? ⟨gB, 6, none⟩ = some (Value.slice (some ⟨g2, f2, none⟩) l.length c2) ∧ wq.rangeAt g (i * 8) (jcells (x, lx, nx)) ∧ wq.rangeAt g2 (f2 + i * 8) (jcells (x, ys i)))) (by kernel_rfl) hS0 (fun hHeld0 => ?_)
    generalize wr.drew = wd at *
    refine held_ta 0 hHeld0 ?_
    refine held_ta 1 hHeld0 ?_
    refine held_ta 2 hHeld0 ?_
    refine held_ta 3 hHeld0 ?_
    refine held_tv 4 (jval (x, lx, nx)) rfl (fun wq hSq => exec_load8 _ rfl rfl (x, lx, nx) hSq.2.2.1) hHeld0 ?_
    refine held_ta 5 hHeld0 ?_
    refine held_ta 6 hHeld0 ?_
    refine held_ta 7 hHeld0 ?_
    refine held_ta 8 hHeld0 ?_
    refine held_tv 9 (jval (x, ys i)) rfl (fun wq hSq => exec_load8 _ rfl rfl (x, ys i) hSq.2.2.2) hHeld0 ?_
    refine held_st 10 rfl (fun K hK => ?_)
    go_simp
    refine (HCA.out S2 (x, ys i) wd (HB.out.trans ((HBE2.out.trans (HBD.out.mono HBE2.out.size)).mono HB.out.size)) (((HS2.out i x HX.out).bel HBE2.out).bel HBD.out) rfl HSX.out).mono ?_
    rintro ez w5 ⟨rfl, hb5⟩
    have HB5 : Hid (Below wr.heap.size wr w5) := hid (HBD.out.trans (hb5.mono HBD.out.size))
    clear hb5
    refine hK.out _ _ (HMK.out _ HB5.out) (fun hHeld1 => ?_)
    clear hK K hHeld0
    refine held_ta 11 hHeld1 ?_
    refine wpAnyH_done (by kernel_rfl) ?_ _
    clear hHeld1
    have HA4 := hid (HA2.out.below HB5.out)
    have HB4 := hid (HB2.out.below HB5.out)
    have HBE4 : Hid (Below w.heap.size w w5) := hid (HBE2.out.trans (HB5.out.mono HBE2.out.size))
    clear HA2 HB2 HBE2 HMK HBD HB5 ac6 bc6
    go_wp2_with fail
    go_roundg (l.length - (i + 1))
    case measure => have := Hki.out; omega
    exact ⟨i + 1, rfl, by omega, by go_num, HA4.out, HB4.out, HBE4.out⟩
   have hlti : ¬ (i : Int) < (l.length : Int) := by omega
   go_wp2_with fail
   go_ret
   exact ⟨rfl, HBE2.out⟩
open Go.RowKit
def Turns {β : Type} (B : Nat) (I : β → World → Prop) : Prop := ∀ s W k o o', I s W → B ≤ k → W.heap[k]? = some o → o.isCells = false → I s (W.putObj k o')
def Grows {β : Type} (I : β → World → Prop) : Prop := ∀ s W W', I s W → Below W.heap.size W W' → I s W'
def Hands {α : Type} (F : Fence) (n : Nat) (P : Program) (gf : Nat) (lb : Array Value) (encs : α → Array Value) (n0 : Nat) (E : Nat → List α → α → World → Prop) (S Sp : List α → Prop) (w : World) : Prop :=
 ∀ (l : Nat) (J Jx : List α → World → Prop) (W : World), Below w.heap.size w W → Grows J → Grows Jx →
  (∀ pre x V, J pre V → E W.heap.size pre x V → YieldAt F (n - 1) P l (encs x) V fun e V' =>
   (e = .returned (.bool true) ∧ J (pre ++ [x]) V' ∧ Below n0 V V') ∨ (e = .returned (.bool false) ∧ Jx (pre ++ [x]) V')) →
  J [] W →
  CallsIn F n P gf (#[.func (.yield l) #[] #[]] ++ lb) W fun e V => (∃ v, e = .returned v) ∧ ((∃ xs, S xs ∧ J xs V) ∨ ∃ pre, Sp pre ∧ Jx pre V)
def HandPost {α : Type} (B n0 : Nat) (I : List α → World → Prop) (Ix : Code → List α → World → Prop) (xs : List α) (W : World) : Exit → Act → World → Prop
 | .normal, _, V => KeepsFrom B W V ∧ Below n0 W V ∧ I xs V
 | .ret, _, V => KeepsFrom B W V ∧ Ix .ret xs V
 | .exit id, _, V => KeepsFrom B W V ∧ Ix (.exit id) xs V
 | .goto t, _, V => KeepsFrom B W V ∧ Ix (.goto t) xs V
 | .panic _, _, _ => False
 | .outgrown, _, _ => False
theorem putObj_apart (W : World) (l : Nat) (o : Obj) : Apart (fun k => k = l) W (W.putObj l o) :=
 ⟨rfl, rfl, rfl, by simp [World.putObj], fun k _ hn => World.putObj_heap_other hn⟩
theorem putObj_below {W : World} {l n0 : Nat} (o : Obj) (h : n0 ≤ l) (hl : n0 ≤ W.heap.size) : Below n0 W (W.putObj l o) :=
 (putObj_apart W l o).below hl (fun i hi e => by omega)
theorem range_hands {α : Type} {F : Fence} {n : Nat} {P : Program} {g : Operand} {ps : Array Tmp} {assign body : Code} {Q : Exit → Act → World → Prop} {a : Act} {w : World}
  (hro : F.round = none) (h1 : 1 ≤ n) {gf : Nat} {lb : Array Value} (hg : a.eval g = .func (.func gf) #[] lb) (hFg : F.fn gf) (eg : ∀ args w, (callFunc gf args).run P w = .ok (.enter gf args) w)
  {encs : α → Array Value} {n0 : Nat} {E : Nat → List α → α → World → Prop} {S Sp : List α → Prop} {w0 : World} (hh : Hands F (n - 1) P gf lb encs n0 E S Sp w0) (hb0 : Below w0.heap.size w0 w) (hn : n0 ≤ w.heap.size) (hps : ∀ x, (encs x).size = ps.size)
  (I : List α → World → Prop) (Ix : Code → List α → World → Prop) (hI : Turns w.heap.size I) (hG : Grows I) (hIx : ∀ c, Turns w.heap.size (Ix c)) (hGx : ∀ c, Grows (Ix c)) (h0 : I [] w)
  (hround : ∀ (l : Nat) (pre : List α) (x : α) (W : World), l = w.heap.size + 1 → l < W.heap.size → I pre W → E (w.heap.size + 2) pre x W →
   assign.wpIn (F.inRound l) (n - 1 - 1) P (Exit.then (fun a1 W1 => KeepsFrom w.heap.size W W1 ∧ Below n0 W W1 ∧ ∀ W2, Apart (fun k => k = l) W1 W2 → W2.heap.size = W1.heap.size →
    body.wpIn (F.inRound l) (n - 1 - 1) P (HandPost w.heap.size n0 I Ix (pre ++ [x]) W2) a1 W2) (fun _ _ _ => False)) { tmps := (ps.zip (encs x)).foldl (fun t (p, v) => t.setIfInBounds p v) a.tmps, defers := [] } W)
  (hdone : ∀ (D : Nat) (xs : List α) (W : World), D = w.heap.size → S xs → I xs W → W.heap[D]? = some (.deferred (some [])) → Q .normal { a with defers := { target := .collected D, args := #[] } :: a.defers } W)
  (hstop : ∀ (D : Nat) (c : Code) (pre : List α) (W : World), D = w.heap.size → Sp pre → Ix c pre W → W.heap[D]? = some (.deferred (some [])) → c.wpIn F n P Q { a with defers := { target := .collected D, args := #[] } :: a.defers } W) :
  (Code.rangeFunc g ps assign body).wpIn F n P Q a w := by
 refine wpIn_rangeFunc (fun fn hfn => ?_)
 rw [hro]
 obtain ⟨B, hB⟩ : ∃ B, w.heap.size = B := ⟨_, rfl⟩
 obtain ⟨rc, hrc⟩ : ∃ rc : LoopState → Option Code → Loop, ∀ st pe, rc st pe = { state := st, pending := pe, fn, tmps := a.tmps, params := ps, assign, body, defers := B } := ⟨_, fun _ _ => rfl⟩
 obtain ⟨V0, hV0⟩ : ∃ V0, (w.alloc (.deferred (some []))).alloc (.loop (rc .ready none)) = V0 := ⟨_, rfl⟩
 have hbV : Below w.heap.size w V0 := by rw [← hV0]; exact ((Below.refl _ w).alloc (Nat.le_refl _) _).alloc (by rw [World.size_alloc]; omega) _
 have hsV : V0.heap.size = B + 2 := by rw [← hV0, World.size_alloc, World.size_alloc, hB]
 have hlV : V0.heap[B + 1]? = some (.loop (rc .ready none)) := by
  have h := World.alloc_heap_new (w.alloc (.deferred (some []))) (.loop (rc .ready none))
  rw [World.size_alloc, hB] at h; rw [← hV0]; exact h
 have hdV : V0.heap[B]? = some (.deferred (some [])) := by
  have h := World.alloc_heap_new w (.deferred (some []))
  rw [hB] at h; rw [← hV0]; exact (Below.heap_alloc _ _ _ (by rw [World.size_alloc]; omega)).trans h
 have hen := run_enterLoop_outer (P := P) (w := w) fn a.tmps ps assign body
 rw [hB, ← hrc .ready none, hV0] at hen
 rw [hB] at hI hIx hround hdone hstop hn
 refine ⟨B + 1, [{ target := .collected B, args := #[] }], V0, { target := .fn (.func gf) lb, args := #[.func (.yield (B + 1)) #[] #[]] }, V0, gf, #[.func (.yield (B + 1)) #[] #[]] ++ lb, V0, hen, ?_, ?_, ?_, fun _ => h1, ?_⟩
 ·simp only [resolve, hg]
  simp [go_sem]
 ·intro f' hf'; simp [Target.leads] at hf'; subst hf'; exact hFg
 ·simp [invoke, go_sem, eg]
 have book : ∀ {W V : World}, Below W.heap.size W V → ∀ {k o}, W.heap[k]? = some o → V.heap[k]? = some o := fun hb k o h => (hb.block k (Array.getElem?_eq_some_iff.1 h).1).trans h
 refine (hh (B + 1)
  (fun pre W => I pre W ∧ W.heap[B + 1]? = some (.loop (rc .ready none)) ∧ W.heap[B]? = some (.deferred (some [])))
  (fun pre W => ∃ c, Ix c pre W ∧ W.heap[B + 1]? = some (.loop (rc .done (some c))) ∧ W.heap[B]? = some (.deferred (some [])))
  V0 (hb0.trans (hbV.mono hb0.size))
  (fun s W V h hb => ⟨hG s W V h.1 hb, book hb h.2.1, book hb h.2.2⟩)
  (fun s W V h hb => by obtain ⟨c, h1, h2, h3⟩ := h; exact ⟨c, hGx c s W V h1 hb, book hb h2, book hb h3⟩)
  ?_ ⟨hG _ _ _ h0 hbV, hlV, hdV⟩).mono ?_
 ·rintro pre x W ⟨hi, hl, hd⟩ hE
  rw [hsV] at hE
  have hlt : B + 1 < W.heap.size := (Array.getElem?_eq_some_iff.1 hl).1
  have hy := run_yield (P := P) (args := encs x) hl (by rw [hrc]; exact hps x)
  rw [hrc] at hy
  refine ⟨fn, _, assign, body, hy, roundIn_of_wpIn hfn (wpIn_mono (hround _ pre x W rfl hlt hi hE) ?_)⟩
  clear hy
  intro e a1 W1 he
  cases e with
  | normal =>
   obtain ⟨hk1, hb1, hbody⟩ := he
   have hl1 := hk1.same _ _ (by omega) hl rfl
   have hd1 := hk1.same _ _ (Nat.le_refl _) hd rfl
   have hlt1 : B + 1 < W1.heap.size := (Array.getElem?_eq_some_iff.1 hl1).1
   refine ⟨_, run_beginRound hl1 (by rw [hrc]), ?_⟩
   obtain ⟨W2, hW2⟩ : ∃ W2, W1.putObj (B + 1) (.loop { rc .ready none with state := .busy }) = W2 := ⟨_, rfl⟩
   rw [hW2]
   have hl2 : W2.heap[B + 1]? = some (.loop { rc .ready none with state := .busy }) := by rw [← hW2]; exact World.putObj_heap_same hlt1
   have hd2 : W2.heap[B]? = some (.deferred (some [])) := by rw [← hW2]; exact (World.putObj_heap_other (by omega)).trans hd1
   have hb2 : Below n0 W1 W2 := by rw [← hW2]; exact putObj_below _ (by omega) (by omega)
   refine wpIn_mono (hbody W2 (by rw [← hW2]; exact putObj_apart _ _ _) (by rw [← hW2]; simp [World.putObj])) ?_
   have fin : ∀ (j : Option Code) (W3 : World), KeepsFrom B W2 W3 → ∃ V, (Instr.endRound (B + 1) j).run P W3 = .ok (.bool j.isNone) V ∧ V = W3.putObj (B + 1) (.loop (rc (if j.isNone then .ready else .done) j)) ∧ (∃ o, W3.heap[B + 1]? = some o ∧ o.isCells = false) ∧
     V.heap[B + 1]? = some (.loop (rc (if j.isNone then .ready else .done) j)) ∧ V.heap[B]? = some (.deferred (some [])) ∧ Below n0 W3 V := fun j W3 hk3 => by
    have hl3 := hk3.same _ _ (by omega) hl2 rfl
    have hd3 := hk3.same _ _ (Nat.le_refl _) hd2 rfl
    have hlt3 : B + 1 < W3.heap.size := (Array.getElem?_eq_some_iff.1 hl3).1
    have hr := run_endRound (P := P) j hl3
    have er : ({ { rc .ready none with state := .busy } with state := if j.isNone then .ready else .done, pending := j } : Loop) = rc (if j.isNone then .ready else .done) j := by rw [hrc, hrc]
    refine ⟨_, hr, by rw [← er], ⟨_, hl3, rfl⟩, by rw [← er]; exact World.putObj_heap_same hlt3, (World.putObj_heap_other (by omega)).trans hd3, putObj_below _ (by omega) (by omega)⟩
   rintro e a3 W3 hp
   cases e with
   | normal =>
    obtain ⟨hk3, hb3, hi3⟩ := hp
    obtain ⟨V, hr, hV, ⟨o, ho, hoc⟩, hlV, hdV, hbV⟩ := fin none W3 hk3
    exact ⟨_, _, hr, .inl ⟨rfl, ⟨by rw [hV]; exact hI _ _ _ _ _ hi3 (by omega) ho hoc, hlV, hdV⟩, ((hb1.trans hb2).trans hb3).trans hbV⟩⟩
   | ret =>
    obtain ⟨hk3, hi3⟩ := hp
    obtain ⟨V, hr, hV, ⟨o, ho, hoc⟩, hlV, hdV, _⟩ := fin (some .ret) W3 hk3
    exact ⟨_, _, hr, .inr ⟨rfl, .ret, by rw [hV]; exact hIx _ _ _ _ _ _ hi3 (by omega) ho hoc, hlV, hdV⟩⟩
   | exit id =>
    obtain ⟨hk3, hi3⟩ := hp
    obtain ⟨V, hr, hV, ⟨o, ho, hoc⟩, hlV, hdV, _⟩ := fin (some (.exit id)) W3 hk3
    exact ⟨_, _, hr, .inr ⟨rfl, .exit id, by rw [hV]; exact hIx _ _ _ _ _ _ hi3 (by omega) ho hoc, hlV, hdV⟩⟩
   | goto t =>
    obtain ⟨hk3, hi3⟩ := hp
    obtain ⟨V, hr, hV, ⟨o, ho, hoc⟩, hlV, hdV, _⟩ := fin (some (.goto t)) W3 hk3
    exact ⟨_, _, hr, .inr ⟨rfl, .goto t, by rw [hV]; exact hIx _ _ _ _ _ _ hi3 (by omega) ho hoc, hlV, hdV⟩⟩
   | panic ch => exact hp.elim
   | outgrown => exact hp.elim
  | ret => exact he.elim
  | exit id => exact he.elim
  | goto t => exact he.elim
  | panic ch => exact he.elim
  | outgrown => exact he.elim
 ·rintro e V ⟨⟨v, rfl⟩, (⟨xs, hS, hi, hl, hd⟩ | ⟨pre, hSp, c, hi, hl, hd⟩)⟩
  ·have hr := run_endLoop (P := P) hl (by rw [hrc]; simp)
   rw [hrc] at hr
   exact ⟨none, _, hr, hdone _ xs _ rfl hS (hI _ _ _ _ _ hi (by omega) hl rfl) ((World.putObj_heap_other (by omega)).trans hd)⟩
  have hr := run_endLoop (P := P) hl (by rw [hrc]; simp)
  rw [hrc] at hr
  exact ⟨some c, _, hr, hstop _ c pre _ rfl hSp (hIx _ _ _ _ _ _ hi (by omega) hl rfl) ((World.putObj_heap_other (by omega)).trans hd)⟩
end Go.Proofs.YtfclfaidmipjpaaGreatDoor
