/- Texts of this claim, joined: Kkp, Spl. -/
import Derived.Test.YtfclfaidmipjpaaGreatDoorVl11
namespace Go.Proofs.YtfclfaidmipjpaaGreatDoor
set_option maxRecDepth 100000
set_option maxHeartbeats 20000000
open Go.Lib (hid)
open Go.RowKit
def KepTo (w : World) (e : Ending) (w' : World) : Prop := e = .returned (.bool true) ∧ Below w.heap.size w w'
theorem kept_calls {w0 : World} {S1 : Nat → Prop} {r1 : JR} (h1 : KV w0 S1 r1) : ∀ (S2 : Nat → Prop) (r2 : JR) (w : World), Below w0.heap.size w0 w → JV w S2 r2 → r1.1 = r2.1 → szJ r1.1 ≤ 20000000 → Calls Tryz.prog 22 #[jval r1, jval r2] w (KepTo w) := by
 induction h1 with
 | mk v rs g c q e hl hv hn hg hq hs ih =>
  intro S2 r2 w hb h2 heq hsz
  obtain ⟨v2, lv2, nv2⟩ := r2
  change v = v2 at heq
  subst heq
  have hK : KV w0 S1 (v, .slice (some ⟨g, 0, none⟩) rs.length c, .slice (some ⟨q, 0, none⟩) v.ns.length e) := .mk v rs g c q e hl hv hn hg hq hs
  have hJ2 := h2
  obtain ⟨k, b, n, t, l, ns⟩ := v
  simp only [J.l] at hv
  simp only [szJ] at hsz
  have hln : l.length ≤ 20000000 := by have := szL_len l; omega
  have hnn : ns.length ≤ 20000000 := by have := szN_len ns; omega
  have hrl : rs.length = l.length := by rw [hv, List.length_map]
  cases h2 with
  | mk _ ys hn2 hl2 hs2 =>
   obtain ⟨p2, c2, hp2, _, _, hL2⟩ := hl2
   change lv2 = Value.slice p2 l.length c2 at hp2
   obtain ⟨q2, e2, hq2, _, _, _⟩ := hn2
   change nv2 = Value.slice q2 ns.length e2 at hq2
   subst hp2 hq2
   simp only [J.l] at hL2 hs2
   have hnine := KV.nine hK
   obtain ⟨g9, c9, q9, e9, e91, e92, hc9, he9, _, _, hni, hsp⟩ := hnine
   simp only [J.l, J.ns] at e91 e92 hc9 he9 hni hsp
   rw [hrl] at e91
   injection e91 with x1 _ x3
   injection x1 with x1
   injection x1 with x1 _ _
   subst x1 x3
   injection e92 with x1 _ x3
   injection x1 with x1
   injection x1 with x1 _ _
   subst x1 x3
   have hglt := (World.ownsRow.lt hl g rfl).2
   have hqlt := (World.ownsRow.lt hn q rfl).2
   obtain ⟨R1, hR1⟩ : ∃ R : JR, ((J.mk k b n t l ns, Value.slice (some ⟨g, 0, none⟩) l.length c, Value.slice (some ⟨q, 0, none⟩) ns.length e) : JR) = R := ⟨_, rfl⟩
   obtain ⟨R2, hR2⟩ : ∃ R : JR, ((J.mk k b n t l ns, Value.slice p2 l.length c2, Value.slice q2 ns.length e2) : JR) = R := ⟨_, rfl⟩
   rw [show rs.length = l.length from hrl] at hK ⊢
   change KV w0 S1 (J.mk k b n t l ns, Value.slice (some ⟨g, 0, none⟩) l.length c, Value.slice (some ⟨q, 0, none⟩) ns.length e) at hK
   change Calls _ _ #[jval (J.mk k b n t l ns, Value.slice (some ⟨g, 0, none⟩) l.length c, Value.slice (some ⟨q, 0, none⟩) ns.length e), _] _ _
   have HC1 : Hid (∀ (W : World) (g9 : Nat), RowAt W g9 (jcells R1) → W.cell? ⟨g9, 6, none⟩ = some (Value.slice (some ⟨g, 0, none⟩) l.length c) ∧ W.cell? ⟨g9, 7, none⟩ = some (Value.slice (some ⟨q, 0, none⟩) ns.length e)) := hid (fun W g9 h => by subst hR1; exact ⟨h.cell 6 _ rfl, h.cell 7 _ rfl⟩)
   have HC2 : Hid (∀ (W : World) (g9 : Nat), RowAt W g9 (jcells R2) → W.cell? ⟨g9, 6, none⟩ = some (Value.slice p2 l.length c2) ∧ W.cell? ⟨g9, 7, none⟩ = some (Value.slice q2 ns.length e2)) := hid (fun W g9 h => by subst hR2; exact ⟨h.cell 6 _ rfl, h.cell 7 _ rfl⟩)
   rw [hR1] at hK ⊢
   rw [hR2] at hJ2 ⊢
   have HE12 : Hid (R1.1 = R2.1) := hid (by rw [← hR1, ← hR2])
   have HK1 := hid hK
   have HJ2 := hid hJ2
   have HB := hid hb
   have HNI : Hid (∀ W, Below w0.heap.size w0 W → W.cell? ⟨g, l.length * 8, none⟩ = some (.int .i64 9) ∧ W.cell? ⟨q, ns.length, none⟩ = some (.string ⟨#[115, 112, 97, 114, 101]⟩)) := hid (fun W hW => ⟨(hW.cell (p := ⟨g, l.length * 8, none⟩) hglt).trans (hni 0 _ rfl), (hW.cell (p := ⟨q, ns.length, none⟩) hqlt).trans hsp⟩)
   have HKID : Hid (∀ i x, l[i]? = some x → ∃ (lx nx : Value), (∀ W, Below w0.heap.size w0 W → W.rangeAt g (i * 8) (jcells (x, lx, nx))) ∧ ∀ (S2 : Nat → Prop) (r2 : JR) (W : World), Below w0.heap.size w0 W → JV W S2 r2 → x = r2.1 → szJ x ≤ 20000000 → Calls Tryz.prog 22 #[jval (x, lx, nx), jval r2] W (KepTo W)) := hid (fun i x hx => by
    rw [hv, List.getElem?_map] at hx
    cases hr : rs[i]? with
    | none => rw [hr] at hx; cases hx
    | some r =>
     rw [hr] at hx
     simp only [Option.map_some, Option.some.injEq] at hx
     subst hx
     have hi2 := (List.getElem?_eq_some_iff.1 hr).1
     refine ⟨r.2.1, r.2.2, fun W hW j u hj => ?_, fun S2 r2 W hW hJ he hz => ih r (List.mem_of_getElem? hr) S2 r2 W hW hJ he hz⟩
     have hj8 : j < 8 := (List.getElem?_eq_some_iff.1 hj).1
     rw [hW.cell (p := ⟨g, i * 8 + j, none⟩) hglt, World.ownsRow.cellAt hl (i * 8 + j) (by omega), jrow_at (rs ++ [jnine]) i r (by rw [List.getElem?_append_left hi2, hr]) j hj8]
     exact hj)
   have HL2 := hid hL2
   have HS2 := hid hs2
   have HSZ : Hid (szL l ≤ 20000000) := hid (by omega)
   have HCP : Hid (l.length + 1 ≤ c ∧ ns.length + 1 ≤ e) := hid ⟨hc9, he9⟩
   clear hK hJ2 hb hni hsp hL2 hs2 hsz hl hv hn hg hq hs ih hrl hR1 hR2 hglt hqlt hc9 he9
   try clear rs
   go_enter Tryz.func22, Tryz.ntmps22
   go_upto_region 1 with (first | (refine wpList_boxJ rfl _ rfl R1 rfl ?_; intro w1 hBx1) | (refine wpList_boxJ rfl _ rfl R2 rfl ?_; intro w2 hBx2))
   have hv1 := hBx1.row.below hBx2.be
   have hv2 := hBx2.row
   have HBE : Hid (Below w.heap.size w w2) := hid (hBx2.below hBx1.be hBx1.be.size)
   obtain ⟨gA, hgA⟩ : ∃ x, w.heap.size = x := ⟨_, rfl⟩
   obtain ⟨gB, hgB⟩ : ∃ x, w1.heap.size = x := ⟨_, rfl⟩
   rw [hgA] at hv1
   rw [hgB] at hv2
   try rw [hgA]
   try rw [hgB]
   have HA := hid hv1
   have HBB := hid hv2
   clear hBx1 hBx2 hgA hgB hv1 hv2
   have hw1 : ∀ z : Nat, z ≤ 20000000 → IntKind.i64.wrap ((z : Int) + 1) = ((z + 1 : Nat) : Int) := fun z hz => by rw [IntWalk.i64_in _ (by omega)]; omega
   obtain ⟨l1, hl1⟩ : ∃ x, l.length + 1 = x := ⟨_, rfl⟩
   obtain ⟨n1, hn1⟩ : ∃ x, ns.length + 1 = x := ⟨_, rfl⟩
   have W1 : IntKind.i64.wrap ((l.length : Int) + 1) = (l1 : Int) := by rw [hw1 _ hln, hl1]
   have W2 : IntKind.i64.wrap ((ns.length : Int) + 1) = (n1 : Int) := by rw [hw1 _ hnn, hn1]
   have HL1 := hid hl1
   have HN1 := hid hn1
   clear hw1 hl1 hn1
   have HMK : Hid (∀ W, Below w2.heap.size w2 W → (fun wq => RowAt wq gA (jcells R1) ∧ RowAt wq gB (jcells R2) ∧ wq.cell? ⟨gA, 6, none⟩ = some (Value.slice (some ⟨g, 0, none⟩) l.length c) ∧ wq.cell? ⟨gA, 7, none⟩ = some (Value.slice (some ⟨q, 0, none⟩) ns.length e) ∧ wq.cell? ⟨gB, 6, none⟩ = some (Value.slice p2 l.length c2) ∧ wq.cell? ⟨gB, 7, none⟩ = some (Value.slice q2 ns.length e2) ∧ wq.cell? ⟨g, l.length * 8, none⟩ = some (.int .i64 9) ∧ wq.cell? ⟨q, ns.length, none⟩ = some (.string ⟨#[115, 112, 97, 114, 101]⟩)) W) := hid (fun W h => by
    have ha := HA.out.below h
    have hb := HBB.out.below h
    have hw := HNI.out W (HB.out.trans ((HBE.out.trans (h.mono HBE.out.size)).mono HB.out.size))
    exact ⟨ha, hb, (HC1.out _ _ ha).1, (HC1.out _ _ ha).2, (HC2.out _ _ hb).1, (HC2.out _ _ hb).2, hw.1, hw.2⟩)
   have hlb : (l.length : Int) < (l1 : Int) := by have := HL1.out; omega
   have hnb : (ns.length : Int) < (n1 : Int) := by have := HN1.out; omega
   have hS0 := HMK.out _ (Below.refl w2.heap.size w2).drew
   have HBD : Hid (Below w2.heap.size w2 w2.drew) := hid (Below.refl _ _).drew
   refine wp_region_held_drew (S := (fun wq => RowAt wq gA (jcells R1) ∧ RowAt wq gB (jcells R2) ∧ wq.cell? ⟨gA, 6, none⟩ = some (Value.slice (some ⟨g, 0, none⟩) l.length c) ∧ wq.cell? ⟨gA, 7, none⟩ = some (Value.slice (some ⟨q, 0, none⟩) ns.length e) ∧ wq.cell? ⟨gB, 6, none⟩ = some (Value.slice p2 l.length c2) ∧ wq.cell? ⟨gB, 7, none⟩ = some (Value.slice q2 ns.length e2) ∧ wq.cell? ⟨g, l.length * 8, none⟩ = some (.int .i64 9) ∧ wq.cell? ⟨q, ns.length, none⟩ = some (.string ⟨#[115, 112, 97, 114, 101]⟩))) (by kernel_rfl) hS0 (fun hHeld0 => ?_)
   generalize w2.drew = wd at *
   refine held_tv 0 (jval R1) rfl (fun wq hSq => exec_loadJ _ rfl rfl R1 hSq.1) hHeld0 ?_
   refine held_tv 1 (jval R2) rfl (fun wq hSq => exec_loadJ _ rfl rfl R2 hSq.2.1) hHeld0 ?_
   refine held_st 2 rfl (fun K hK => ?_)
   go_simp
   refine (sameR_calls HK1.out.jv S2 R2 wd (HB.out.trans ((HBE.out.trans (HBD.out.mono HBE.out.size)).mono HB.out.size)) ((HJ2.out.bel HBE.out).bel HBD.out)).mono ?_
   rintro ez w3 ⟨bb, rfl, hbb, hb3⟩
   obtain rfl : bb = true := hbb.2 HE12.out
   have HB3 : Hid (Below w2.heap.size w2 w3) := hid (HBD.out.trans (hb3.mono HBD.out.size))
   clear hbb hb3
   refine hK.out _ _ (HMK.out _ HB3.out) (fun hHeld1 => ?_)
   clear hK K hHeld0
   refine held_ta 3 hHeld1 ?_
   refine held_ta 4 hHeld1 ?_
   refine held_ta 5 hHeld1 ?_
   refine held_ta 6 hHeld1 ?_
   refine held_ta 7 hHeld1 ?_
   refine held_ta 8 hHeld1 ?_
   refine held_ta 9 hHeld1 ?_
   refine held_ta 10 hHeld1 ?_
   refine held_tv 11 (.slice (some ⟨g, 0, none⟩) l1 c) rfl (fun wq hSq => by rw [← sliced_lo g l1 c 8 (by have := HCP.out.1; omega)]; exact exec_slice_h _ _ rfl und_jsons (size_json _) rfl rfl (by have := HCP.out.1; have := HL1.out; omega)) hHeld1 ?_
   refine held_ta 12 hHeld1 ?_
   refine held_ta 13 hHeld1 ?_
   refine held_ta 14 hHeld1 ?_
   refine held_ta 15 hHeld1 ?_
   refine held_ta 16 hHeld1 ?_
   refine held_ta 17 hHeld1 ?_
   refine held_ta 18 hHeld1 ?_
   refine held_ta 19 hHeld1 ?_
   refine held_ta 20 hHeld1 ?_
   refine held_ta 21 hHeld1 ?_
   refine held_ta 22 hHeld1 ?_
   refine held_ta 23 hHeld1 ?_
   refine held_ta 24 hHeld1 ?_
   refine held_ta 25 hHeld1 ?_
   refine held_ta 26 hHeld1 ?_
   refine held_tv 27 (.slice (some ⟨q, 0, none⟩) n1 e) rfl (fun wq hSq => by rw [← sliced_lo q n1 e 1 (by have := HCP.out.2; omega)]; exact exec_slice_h _ _ rfl und_names (size_str _) rfl rfl (by have := HCP.out.2; have := HN1.out; omega)) hHeld1 ?_
   refine held_ta 28 hHeld1 ?_
   refine held_ta 29 hHeld1 ?_
   refine held_ta 30 hHeld1 ?_
   refine held_ta 31 hHeld1 ?_
   refine held_ta 32 hHeld1 ?_
   refine held_ta 33 hHeld1 ?_
   refine held_ta 34 hHeld1 ?_
   refine wpAnyH_done (by kernel_rfl) ?_ _
   clear hHeld1
   have HA3 := hid (HA.out.below HB3.out)
   have HBB3 := hid (HBB.out.below HB3.out)
   have HBE3 : Hid (Below w.heap.size w w3) := hid (HBE.out.trans (HB3.out.mono HBE.out.size))
   clear HA HBB HBE HMK HBD HB3 HNI HK1 HE12 W1 W2 hlb hnb HL1 HN1
   go_wp2_with fail
   go_loopg [5] l.length (fun kk s5 wr => ∃ i : Nat, kk = l.length - i ∧ i ≤ l.length ∧ s5 = .int .i64 (i : Int) ∧ RowAt wr gA (jcells R1) ∧ RowAt wr gB (jcells R2) ∧ Below w.heap.size w wr)
   case atStart => exact ⟨0, rfl, Nat.zero_le _, rfl, HA3.out, HBB3.out, HBE3.out⟩
   obtain ⟨i, hki, hi, rfl, hA, hB, hBe⟩ := hrel
   have Hki := hid hki
   have HA2 := hid hA
   have HB2 := hid hB
   have HBE2 := hid hBe
   clear hki hA hB hBe HA3 HBB3 HBE3
   have ac6 := (HC1.out _ _ HA2.out).1
   have bc6 := (HC2.out _ _ HB2.out).1
   by_cases hlt : i < l.length
   ·
    have hlti : (i : Int) < (l.length : Int) := by omega
    obtain ⟨g2, f2, rfl, _, hg2, hr2⟩ := HL2.out (by omega)
    obtain ⟨x, hx⟩ : ∃ x, l[i]? = some x := ⟨_, List.getElem?_eq_getElem hlt⟩
    obtain ⟨lx, nx, hra, hca⟩ := HKID.out i x hx
    have HX := hid hx
    have hsx := szL_in hx
    have HSX : Hid (szJ x ≤ 20000000) := hid (by have := HSZ.out; omega)
    have HCA := hid hca
    have HRA := hid hra
    have HR2 : Hid (∀ W, Below w.heap.size w W → W.rangeAt g2 (f2 + i * 8) (jcells (x, ys i))) := hid (fun W hW c v hc => by
     have hc8 : c < 8 := (List.getElem?_eq_some_iff.1 hc).1
     rw [hW.cell (p := ⟨g2, f2 + i * 8 + c, none⟩) hg2, hr2 i x hx c hc8]; exact hc)
    clear hx hsx hra hca hg2 hr2
    go_upto_region 6 with fail
    have HMK : Hid (∀ W, Below wr.heap.size wr W → (fun wq => wq.cell? ⟨gA, 6, none⟩ = some (Value.slice (some ⟨g, 0, none⟩) l.length c) ∧ wq.cell? ⟨gB, 6, none⟩ = some (Value.slice (some ⟨g2, f2, none⟩) l.length c2) ∧ wq.rangeAt g (i * 8) (jcells (x, lx, nx)) ∧ wq.rangeAt g2 (f2 + i * 8) (jcells (x, ys i))) W) := hid (fun W h => by
     have hw : Below w.heap.size w W := HBE2.out.trans (h.mono HBE2.out.size)
     exact ⟨(HC1.out _ _ (HA2.out.below h)).1, (HC2.out _ _ (HB2.out.below h)).1, HRA.out W (HB.out.trans (hw.mono HB.out.size)), HR2.out W hw⟩)
    have HBD : Hid (Below wr.heap.size wr wr.drew) := hid (Below.refl _ _).drew
    have hS0 := HMK.out _ HBD.out
    refine wp_region_held_drew (S := (fun wq => wq.cell? ⟨gA, 6, none⟩ = some (Value.slice (some ⟨g, 0, none⟩) l.length c) ∧ wq.cell? ⟨gB, 6, none⟩ = some (Value.slice (some ⟨g2, f2, none⟩) l.length c2) ∧ wq.rangeAt g (i * 8) (jcells (x, lx, nx)) ∧ wq.rangeAt g2 (f2 + i * 8) (jcells (x, ys i)))) (by kernel_rfl) hS0 (fun hHeld0 => ?_)
    generalize wr.drew = wd at *
    refine held_ta 0 hHeld0 ?_
    refine held_ta 1 hHeld0 ?_
    refine held_ta 2 hHeld0 ?_
    refine held_ta 3 hHeld0 ?_
    refine held_tv 4 (jval (x, lx, nx)) rfl (fun wq hSq => exec_load8 _ rfl rfl (x, lx, nx) hSq.2.2.1) hHeld0 ?_
    refine held_ta 5 hHeld0 ?_
    refine held_ta 6 hHeld0 ?_
    refine held_ta 7 hHeld0 ?_
    refine held_ta 8 hHeld0 ?_
    refine held_tv 9 (jval (x, ys i)) rfl (fun wq hSq => exec_load8 _ rfl rfl (x, ys i) hSq.2.2.2) hHeld0 ?_
    refine held_st 10 rfl (fun K hK => ?_)
    go_simp
    refine (HCA.out S2 (x, ys i) wd (HB.out.trans ((HBE2.out.trans (HBD.out.mono HBE2.out.size)).mono HB.out.size)) (((HS2.out i x HX.out).bel HBE2.out).bel HBD.out) rfl HSX.out).mono ?_
    rintro ez w5 ⟨rfl, hb5⟩
    have HB5 : Hid (Below wr.heap.size wr w5) := hid (HBD.out.trans (hb5.mono HBD.out.size))
    clear hb5
    refine hK.out _ _ (HMK.out _ HB5.out) (fun hHeld1 => ?_)
    clear hK K hHeld0
    refine held_ta 11 hHeld1 ?_
    refine wpAnyH_done (by kernel_rfl) ?_ _
    clear hHeld1
    have HA4 := hid (HA2.out.below HB5.out)
    have HB4 := hid (HB2.out.below HB5.out)
    have HBE4 : Hid (Below w.heap.size w w5) := hid (HBE2.out.trans (HB5.out.mono HBE2.out.size))
    clear HA2 HB2 HBE2 HMK HBD HB5 ac6 bc6
    go_wp2_with fail
    go_roundg (l.length - (i + 1))
    case measure => have := Hki.out; omega
    exact ⟨i + 1, rfl, by omega, by go_num, HA4.out, HB4.out, HBE4.out⟩
   have hlti : ¬ (i : Int) < (l.length : Int) := by omega
   go_wp2_with fail
   go_ret
   exact ⟨rfl, HBE2.out⟩
open Go.RowKit
def SplTo (S : Nat → Prop) (w : World) (e : Ending) (w' : World) : Prop := e = .returned (.tuple #[]) ∧ Zap S w w'
theorem wpList_store8At {w : World} {ops : Array Oper} {rest : List Oper} {o : Oper} {a : Act} {Q : Exit → Act → World → Prop} (hgd : o.guard = none) (x y : Operand) (ho : o.op = .store 30 x y) (hd : o.dst = none)
  {g off : Nat} (r : JR) (hs : SlJ r) (hc : ∀ j, j < 8 → (w.cell? ⟨g, off + j, none⟩).isSome = true) (hf : ∀ j, j < 8 → w.frozen? ⟨g, off + j, none⟩ = false)
  (hx : a.eval x = .pointer (some ⟨g, off, none⟩)) (hy : a.eval y = jval r) (hK : wpList Tryz.prog ops Q rest a (w.setCells g off (jcells r))) : wpList Tryz.prog ops Q (o :: rest) a w :=
 wpList_plain hgd fun _ hK' => oper_store8At x y ho hd _ _ _ _ _ _ _ _ hc hf hx hy (by unfold ones8; rw [hs.1, hs.2]; rfl) (hK' _ _ hK)
structure SplI (S : Nat → Prop) (h g : Nat) (R : JR) (w wr : World) : Prop where
 zap : Zap S w wr
 box : RowAt wr g (jcells R)
 spo : Spo wr S (h + 1) R.2.1 R.2.2
theorem SplI.step {S : Nat → Prop} {h g : Nat} {R : JR} {w wr w' : World} (hi : SplI S h g R w wr) (hg : ¬ S g) (hz : Zap S wr w') : SplI S h g R w w' :=
 ⟨hi.zap.trans hz, hi.box.apart hz.apart hg, Spo.zap hz _ _ _ hi.spo⟩
theorem spoil_calls : ∀ (h : Nat) (R : JR) (w : World) (S : Nat → Prop), (∀ k, S k → k < w.heap.size) → Spo w S h R.2.1 R.2.2 → Calls Tryz.prog 27 #[jval R] w (SplTo S w) := by
 intro h
 induction h with
 | zero => intro R w S _ hs; rw [Spo] at hs; exact hs.elim
 | succ h ih =>
  intro R w S hS hsp
  obtain ⟨lp, n, c, q, m, e, hl, hn, hnn, hmm⟩ := hsp.forms
  have HIH := hid ih
  have HS := hid hS
  have HSP := hid hsp
  have HR : Hid (R.2.1 = .slice lp n c ∧ R.2.2 = .slice q m e) := hid ⟨hl, hn⟩
  clear ih hS hsp hl hn
  have HCC : Hid (∀ (W : World) (g : Nat), RowAt W g (jcells R) → W.cell? ⟨g, 6, none⟩ = some (.slice lp n c) ∧ W.cell? ⟨g, 7, none⟩ = some (.slice q m e)) := hid (fun W g hr => ⟨by rw [hr.cell 6 _ rfl, HR.out.1], by rw [hr.cell 7 _ rfl, HR.out.2]⟩)
  go_enter Tryz.func27, Tryz.ntmps27
  go_upto_region 1 with (refine wpList_boxJ rfl _ rfl R rfl ?_; intro w1 hBx)
  obtain ⟨g, hg⟩ : ∃ g, w.heap.size = g := ⟨_, rfl⟩
  have HNG : Hid (¬ S g) := hid (fun h9 => by have := HS.out g h9; omega)
  have HI : Hid (SplI S h g R w w1) := hid (by
   have hz : Zap S w w1 := Zap.below hBx.be
   have hr := hBx.row
   rw [hg] at hr
   exact ⟨hz, hr, Spo.zap hz _ _ _ HSP.out⟩)
  rw [hg]
  have HSG : Hid (∀ W, Zap S w W → ∀ k, S k → k < W.heap.size) := hid (fun W hz k hk => Nat.lt_of_lt_of_le (HS.out k hk) hz.size)
  clear hBx hg
  go_wp2_with fail
  go_loopg [2] n (fun kk s2 wr => ∃ i : Nat, kk = n - i ∧ i ≤ n ∧ s2 = .int .i64 (i : Int) ∧ SplI S h g R w wr)
  case atStart => exact ⟨0, rfl, Nat.zero_le _, rfl, HI.out⟩
  clear HI
  obtain ⟨i, hki, hi, rfl, hI⟩ := hrel
  have Hki := hid hki
  have HI := hid hI
  clear hki hI
  obtain ⟨k6, k7⟩ := HCC.out _ _ HI.out.box
  by_cases hlt : i < n
  ·
   have hlti : (i : Int) < (n : Int) := by omega
   obtain ⟨gl, rfl, hSg, hT, hk⟩ := Spo.list (by have h9 := HI.out.spo; rw [HR.out.1] at h9; exact h9) (by omega)
   obtain ⟨r, hr, hsr⟩ := hk i hlt
   have HSR := hid hsr
   have HSL := hid hSg
   clear hk hT hsr hSg
   go_wp2_with (refine wpList_loadMd rfl _ rfl r hr rfl ?_)
   refine (HIH.out r wr S (HSG.out _ HI.out.zap) HSR.out).mono ?_
   rintro ez w2 ⟨rfl, hz⟩
   have HI2 := hid (HI.out.step HNG.out hz)
   clear hz hr HSR k6 k7
   obtain ⟨k6, k7⟩ := HCC.out _ _ HI2.out.box
   obtain ⟨gl2, e2, _, hT, hk⟩ := Spo.list (by have h9 := HI2.out.spo; rw [HR.out.1] at h9; exact h9) (by omega)
   cases e2
   obtain ⟨r2, hr2, _⟩ := hk i hlt
   have HCE : Hid (∀ j, j < 8 → (w2.cell? ⟨gl, i * 8 + j, none⟩).isSome = true) := hid (fun j hj => rangeAt_some hr2 j hj)
   have HFE : Hid (∀ j, j < 8 → w2.frozen? ⟨gl, i * 8 + j, none⟩ = false) := hid (fun j _ => hT.free _)
   clear hk hT hr2
   go_upto_region 3 with (refine wpList_store8At rfl _ _ rfl rfl jneg ⟨rfl, rfl⟩ HCE.out HFE.out rfl rfl ?_)
   have HI3 : Hid (SplI S h g R w (w2.setCells gl (i * 8) (jcells jneg))) := hid (HI2.out.step HNG.out (Zap.putJ HSL.out HCE.out))
   generalize w2.setCells gl (i * 8) (jcells jneg) = w3 at *
   clear HI2 HCE HFE k6 k7
   go_wp2_with fail
   go_roundg (n - (i + 1))
   case measure => have := Hki.out; omega
   exact ⟨i + 1, rfl, by omega, by go_num, HI3.out⟩
  have hlti : ¬ (i : Int) < (n : Int) := by omega
  clear hlt Hki
  have HI0 := HI
  clear k6 k7
  obtain ⟨k6, k7⟩ := HCC.out _ _ HI0.out.box
  go_wp2_with fail
  go_loopg [3] m (fun kk s3 wv => ∃ j : Nat, kk = m - j ∧ j ≤ m ∧ s3 = .int .i64 (j : Int) ∧ SplI S h g R w wv)
  case atStart => exact ⟨0, rfl, Nat.zero_le _, rfl, HI0.out⟩
  clear HI HI0 k6 k7
  obtain ⟨j, hkj, hj, rfl, hI⟩ := hrel
  have Hkj := hid hkj
  have HI := hid hI
  clear hkj hI
  obtain ⟨k6, k7⟩ := HCC.out _ _ HI.out.box
  by_cases hlu : j < m
  ·
   have hluj : (j : Int) < (m : Int) := by omega
   obtain ⟨gq, rfl, hSq, hT, hk⟩ := Spo.names (by have h9 := HI.out.spo; rw [HR.out.2] at h9; exact h9) (by omega)
   obtain ⟨u, hu⟩ := Option.isSome_iff_exists.1 (hk j hlu)
   have hf := hT.free j
   have HSL := hid hSq
   have HT := hid hT
   clear hk hT hSq
   go_upto_region 8 with fail
   have HI3 := hid (HI.out.step HNG.out (Zap.putN (i := j) HSL.out HT.out (.string ⟨#[63]⟩)))
   clear HI hu hf k6 k7 HT
   go_wp2_with fail
   go_roundg (m - (j + 1))
   case measure => have := Hkj.out; omega
   exact ⟨j + 1, rfl, by omega, by go_num, HI3.out⟩
  have hluj : ¬ (j : Int) < (m : Int) := by omega
  go_wp2_with fail
  refine bodyPost_ret (results_none rfl _ _ _) rfl ?_
  exact ⟨rfl, HI.out.zap⟩
end Go.Proofs.YtfclfaidmipjpaaGreatDoor
