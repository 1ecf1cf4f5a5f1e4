/- Texts of this claim, joined: Tlk, Tws, Ppa, Twl. -/
import Derived.Test.YtfclfaidmipjpaaGreatDoorCo09
import Derived.Test.YtfclfaidmipjpaaGreatDoorCo18
namespace Go.Proofs.YtfclfaidmipjpaaGreatDoor
set_option maxRecDepth 100000
open Go.RowKit
def lookS (a b s : List UInt8) : List UInt8 × Int × Bool := match s with
 | 126 :: 48 :: _ => (a, 2, true)
 | 126 :: 49 :: _ => (b, 2, true)
 | _ => ([], 0, false)
theorem lookS_one (a b : List UInt8) (c : UInt8) (t : List UInt8) (h : c ≠ 126) : lookS a b (c :: t) = ([], 0, false) := by
 unfold lookS
 split
 ·rename_i h1; injection h1 with h2; exact absurd h2 h
 ·rename_i h1; injection h1 with h2; exact absurd h2 h
 rfl
theorem lookS_two (a b : List UInt8) (c : UInt8) (t : List UInt8) (h : c ≠ 48) (h9 : c ≠ 49) : lookS a b (126 :: c :: t) = ([], 0, false) := by
 unfold lookS
 split
 ·rename_i h1; injection h1 with _ h2; injection h2 with h3; exact absurd h3 h
 ·rename_i h1; injection h1 with _ h2; injection h2 with h3; exact absurd h3 h9
 rfl
theorem mapV_cases (c : UInt8) : (c = 48 ∧ mapV c = 0) ∨ (c = 49 ∧ mapV c = 1) ∨ (c = 126 ∧ mapV c = 2) ∨ (c ≠ 48 ∧ c ≠ 49 ∧ c ≠ 126 ∧ mapV c = 3) := by
 unfold mapV
 by_cases h0 : c = 48
 ·exact .inl ⟨h0, by rw [if_pos h0]⟩
 by_cases h1 : c = 49
 ·exact .inr (.inl ⟨h1, by rw [if_neg h0, if_pos h1]⟩)
 by_cases h2 : c = 126
 ·exact .inr (.inr (.inl ⟨h2, by rw [if_neg h0, if_neg h1, if_pos h2]⟩))
 exact .inr (.inr (.inr ⟨h0, h1, h2, by rw [if_neg h0, if_neg h1, if_neg h2]⟩))
def LookTo (w : World) (q : List UInt8 × Int × Bool) (e : Ending) (w' : World) : Prop := e = .returned (.tuple #[.string ⟨q.1.toArray⟩, .int .i64 q.2.1, .bool q.2.2]) ∧ Below w.heap.size w w'
set_option maxHeartbeats 8000000 in
theorem look_calls (w : World) {lo gr : Nat} {a b : List UInt8} {gt gA gu gB gC : Nat} (h : TrieAt w lo gr a b gt gA gu gB gC) (s : List UInt8) (hsl : s.length ≤ 1000000000) :
  Calls Tryz.prog 273 #[.pointer (some ⟨gr, 0, none⟩), .string ⟨s.toArray⟩, .bool false] w (LookTo w (lookS a b s)) := by
 have HT := Lib.hid h
 have HB : Hid (Below w.heap.size w w) := Lib.hid (Below.refl _ _)
 have HNE := Lib.hid h.ne
 clear h
 have hw0 : IntKind.i64.wrap 0 = 0 := rfl
 have hw1 : IntKind.i64.wrap 1 = 1 := rfl
 have hw2 : IntKind.i64.wrap 2 = 2 := rfl
 have hw3 : IntKind.i64.wrap 3 = 3 := rfl
 obtain ⟨ANS, hA⟩ : ∃ q, lookS a b s = q := ⟨_, rfl⟩
 have HA := Lib.hid hA
 rw [hA]
 clear hA
 go_enter Tryz.func273, Tryz.ntmps273
 have k1 := HT.out.g.pri
 have k4 := HT.out.g.tab
 have k5 := HT.out.g.size
 go_wp2_with fail
 refine wp_loop_rounds 4 ?_
 rw [rounds_succ]
 cases hs : s with
 | nil =>
  have HA0 : Hid (lookS a b s = ([], 0, false)) := Lib.hid (by rw [hs]; rfl)
  clear hs
  go_wp2_with fail
  first | go_ret | (refine bodyPost_ret (results_tmp3 rfl _ _ _) rfl ?_) | skip
  exact ⟨by rw [← HA.out, HA0.out]; try rfl, HB.out⟩
 | cons c sT =>
  rw [← hs]
  have sX := Lib.hid hs
  clear hs
  have hlts : 0 < s.length := by rw [sX.out]; simp
  have h9s : (0 : Int) < (s.length : Int) := by omega
  have h1s : (1 : Int) ≤ (s.length : Int) := by omega
  have hijs := byte_at s 0 hlts
  have hcs : s.getD 0 0 = c := by rw [sX.out]; rfl
  rw [hcs] at hijs
  have hues : s.isEmpty = false := by rw [sX.out]; rfl
  have hexts : (⟨s.toArray⟩ : ByteArray).extract 1 s.length = ⟨sT.toArray⟩ := by rw [Lib.extract_eq, List.take_of_length_le (by simp), List.drop_one, sX.out]; rfl
  clear hcs
  have hcl : c.toNat < 256 := c.toNat_lt
  have hcli : (c.toNat : Int) < 256 := by omega
  have km := HT.out.g.map c
  have HM := Lib.hid (mapV_cases c)
  obtain ⟨m, hm⟩ : ∃ m, mapV c = m := ⟨_, rfl⟩
  rw [hm] at km HM
  clear hm
  go_wp2_with fail
  go_quiet (fail)
  have HT := Lib.hid (HT.out.below (below_drewN (Below.refl _ _) nq))
  have HB := Lib.hid (HB.out.trans (below_drewN (Below.refl _ _) nq))
  generalize w.drewN nq = wq0 at *
  clear k1 k4 k5 km
  have k1 := HT.out.g.pri
  have k4 := HT.out.g.tab
  have k5 := HT.out.g.size
  rcases HM.out with ⟨hc, rfl⟩ | ⟨hc, rfl⟩ | ⟨hc, rfl⟩ | ⟨hc1, hc2, hc, rfl⟩
  ·
   have HA0 : Hid (lookS a b s = ([], 0, false)) := Lib.hid (by rw [sX.out]; exact lookS_one a b c sT (by rw [hc]; decide))
   clear hc
   have t0 : _ = some (Value.pointer none) := HT.out.t.cell 0 _ rfl
   go_wp2_with fail
   rw [rounds_succ]
   go_wp2_with fail
   first | go_ret | (refine bodyPost_ret (results_tmp3 rfl _ _ _) rfl ?_) | skip
   exact ⟨by rw [← HA.out, HA0.out]; try rfl, HB.out⟩
  ·
   have HA0 : Hid (lookS a b s = ([], 0, false)) := Lib.hid (by rw [sX.out]; exact lookS_one a b c sT (by rw [hc]; decide))
   clear hc
   have t0 : _ = some (Value.pointer none) := HT.out.t.cell 1 _ rfl
   go_wp2_with fail
   rw [rounds_succ]
   go_wp2_with fail
   first | go_ret | (refine bodyPost_ret (results_tmp3 rfl _ _ _) rfl ?_) | skip
   exact ⟨by rw [← HA.out, HA0.out]; try rfl, HB.out⟩
  ·
   subst hc
   have t0 : _ = some (Value.pointer (some ⟨gA, 0, none⟩)) := HT.out.t.cell 2 _ rfl
   have HLT : Hid (sT.length ≤ 1000000000) := Lib.hid (by have h9 := congrArg List.length sX.out; rw [List.length_cons] at h9; omega)
   go_wp2_with fail
   clear t0 k1 k4 k5 hijs hues hexts h9s h1s hlts
   have a1 : _ = some (Value.int .i64 0) := HT.out.nA.cell 1 _ rfl
   have a4 : _ = some (Value.slice (some ⟨gu, 0, none⟩) 3 3) := HT.out.nA.cell 4 _ rfl
   have k5 := HT.out.g.size
   have hne1 := HNE.out.1
   rw [rounds_succ]
   cases ht : sT with
   | nil =>
    have HA0 : Hid (lookS a b s = ([], 0, false)) := Lib.hid (by rw [sX.out, ht]; rfl)
    clear ht
    go_wp2_with fail
    first | go_ret | (refine bodyPost_ret (results_tmp3 rfl _ _ _) rfl ?_) | skip
    exact ⟨by rw [← HA.out, HA0.out]; try rfl, HB.out⟩
   | cons d dT =>
    rw [ht] at sX
    obtain ⟨u, hu⟩ : ∃ u, sT = u := ⟨_, rfl⟩
    rw [← ht, hu]
    have uX : Hid (u = d :: dT) := Lib.hid (by rw [← hu, ht])
    clear ht hu
    obtain ⟨uT, huT⟩ : ∃ x, dT = x := ⟨_, rfl⟩
    rw [huT] at uX sX
    clear huT
    have hltu : 0 < u.length := by rw [uX.out]; simp
    have h9u : (0 : Int) < (u.length : Int) := by omega
    have h1u : (1 : Int) ≤ (u.length : Int) := by omega
    have hiju := byte_at u 0 hltu
    have hcu : u.getD 0 0 = d := by rw [uX.out]; rfl
    rw [hcu] at hiju
    have hueu : u.isEmpty = false := by rw [uX.out]; rfl
    have hextu : (⟨u.toArray⟩ : ByteArray).extract 1 u.length = ⟨uT.toArray⟩ := by rw [Lib.extract_eq, List.take_of_length_le (by simp), List.drop_one, uX.out]; rfl
    clear hcu
    have hdl : d.toNat < 256 := d.toNat_lt
    have hdli : (d.toNat : Int) < 256 := by omega
    have km := HT.out.g.map d
    have HM := Lib.hid (mapV_cases d)
    obtain ⟨m, hm⟩ : ∃ m, mapV d = m := ⟨_, rfl⟩
    rw [hm] at km HM
    clear hm
    go_wp2_with fail
    go_quiet (fail)
    have HT := Lib.hid (HT.out.below (below_drewN (Below.refl _ _) nq))
    have HB := Lib.hid (HB.out.trans (below_drewN (Below.refl _ _) nq))
    generalize wq0.drewN nq = wq1 at *
    clear a1 a4 k5 km
    have a4 : _ = some (Value.slice (some ⟨gu, 0, none⟩) 3 3) := HT.out.nA.cell 4 _ rfl
    have k5 := HT.out.g.size
    rcases HM.out with ⟨hc, rfl⟩ | ⟨hc, rfl⟩ | ⟨hc, rfl⟩ | ⟨hc1, hc2, hc, rfl⟩
    ·
     subst hc
     have HA0 : Hid (lookS a b s = (a, 2, true)) := Lib.hid (by rw [sX.out]; rfl)
     have t0 : _ = some (Value.pointer (some ⟨gB, 0, none⟩)) := HT.out.u.cell 0 _ rfl
     go_wp2_with fail
     clear t0 a4 k5 hiju hueu hextu h9u h1u hltu hne1
     have b0 : _ = some (Value.string ⟨a.toArray⟩) := HT.out.nB.cell 0 _ rfl
     have b1 : _ = some (Value.int .i64 4) := HT.out.nB.cell 1 _ rfl
     have b2 : _ = some (Value.string ⟨#[]⟩) := HT.out.nB.cell 2 _ rfl
     have b4 : _ = some (Value.slice none 0 0) := HT.out.nB.cell 4 _ rfl
     have hne2 := HNE.out.2.1
     rw [rounds_succ]
     cases uT with
     | nil =>
      go_wp2_with fail
      first | go_ret | (refine bodyPost_ret (results_tmp3 rfl _ _ _) rfl ?_) | skip
      exact ⟨by rw [← HA.out, HA0.out]; try rfl, HB.out⟩
     | cons y z =>
      obtain ⟨x, hx⟩ : ∃ x, y :: z = x := ⟨_, rfl⟩
      have hxe : x.isEmpty = false := by rw [← hx]; rfl
      rw [hx]
      clear hx
      go_wp2_with fail
      first | go_ret | (refine bodyPost_ret (results_tmp3 rfl _ _ _) rfl ?_) | skip
      exact ⟨by rw [← HA.out, HA0.out]; try rfl, HB.out⟩
    ·
     subst hc
     have HA0 : Hid (lookS a b s = (b, 2, true)) := Lib.hid (by rw [sX.out]; rfl)
     have t0 : _ = some (Value.pointer (some ⟨gC, 0, none⟩)) := HT.out.u.cell 1 _ rfl
     go_wp2_with fail
     clear t0 a4 k5 hiju hueu hextu h9u h1u hltu hne1
     have b0 : _ = some (Value.string ⟨b.toArray⟩) := HT.out.nC.cell 0 _ rfl
     have b1 : _ = some (Value.int .i64 2) := HT.out.nC.cell 1 _ rfl
     have b2 : _ = some (Value.string ⟨#[]⟩) := HT.out.nC.cell 2 _ rfl
     have b4 : _ = some (Value.slice none 0 0) := HT.out.nC.cell 4 _ rfl
     have hne2 := HNE.out.2.2
     rw [rounds_succ]
     cases uT with
     | nil =>
      go_wp2_with fail
      first | go_ret | (refine bodyPost_ret (results_tmp3 rfl _ _ _) rfl ?_) | skip
      exact ⟨by rw [← HA.out, HA0.out]; try rfl, HB.out⟩
     | cons y z =>
      obtain ⟨x, hx⟩ : ∃ x, y :: z = x := ⟨_, rfl⟩
      have hxe : x.isEmpty = false := by rw [← hx]; rfl
      rw [hx]
      clear hx
      go_wp2_with fail
      first | go_ret | (refine bodyPost_ret (results_tmp3 rfl _ _ _) rfl ?_) | skip
      exact ⟨by rw [← HA.out, HA0.out]; try rfl, HB.out⟩
    ·
     have HA0 : Hid (lookS a b s = ([], 0, false)) := Lib.hid (by rw [sX.out]; exact lookS_two a b d uT (by rw [hc]; decide) (by rw [hc]; decide))
     clear hc
     have t0 : _ = some (Value.pointer none) := HT.out.u.cell 2 _ rfl
     go_wp2_with fail
     rw [rounds_succ]
     go_wp2_with fail
     first | go_ret | (refine bodyPost_ret (results_tmp3 rfl _ _ _) rfl ?_) | skip
     exact ⟨by rw [← HA.out, HA0.out]; try rfl, HB.out⟩
    have HA0 : Hid (lookS a b s = ([], 0, false)) := Lib.hid (by rw [sX.out]; exact lookS_two a b d uT hc1 hc2)
    clear hc1 hc2 hc
    go_wp2_with fail
    first | go_ret | (refine bodyPost_ret (results_tmp3 rfl _ _ _) rfl ?_) | skip
    exact ⟨by rw [← HA.out, HA0.out]; try rfl, HB.out⟩
  have HA0 : Hid (lookS a b s = ([], 0, false)) := Lib.hid (by rw [sX.out]; exact lookS_one a b c sT hc)
  clear hc1 hc2 hc
  go_wp2_with fail
  first | go_ret | (refine bodyPost_ret (results_tmp3 rfl _ _ _) rfl ?_) | skip
  exact ⟨by rw [← HA.out, HA0.out]; try rfl, HB.out⟩
open Go.RowKit
theorem ta_writer (v : Value) (W : World) : (Instr.typeAssert (.iface 302 v) 304 306 true).run Tryz.prog W = .ok (.tuple #[.iface 302 v, .bool true]) W := by kernel_rfl
set_option maxHeartbeats 4000000 in
theorem gsw_calls (gb : Nat) (w : World) :
  Calls Tryz.prog 272 #[.iface 302 (.pointer (some ⟨gb, 0, none⟩))] w fun e w' => e = .returned (.iface 302 (.pointer (some ⟨gb, 0, none⟩))) ∧ w = w' := by
 have hta := ta_writer (.pointer (some ⟨gb, 0, none⟩))
 go_enter Tryz.func272, Tryz.ntmps272
 go_wp2_with fail
 go_ret
 exact ⟨rfl, rfl⟩
theorem wpList_append_W {w : World} {ops : Array Oper} {rest : List Oper} {o : Oper} {a : Act} {Q : Exit → Act → World → Prop} (hgd : o.guard = none) (s x : Operand)
  (ho : o.op = .call { callee := .builtin .append, args := #[s, x], argTypes := #[301, 9] })
  (B : Nat) (v : Value) (l : List UInt8) (hs : a.eval s = v) (hown : FB w B v l) (m : List UInt8)
  (hx : a.eval x = .string ⟨m.toArray⟩) (hlen : l.length + m.length ≤ 100000000000) (hbase : B ≤ w.heap.size)
  (h : ∀ v' w', FB w' B v' (l ++ m) → w.grownBy w' v.ownBlock → wpList Tryz.prog ops Q rest (a.put o.dst v') w') :
  wpList Tryz.prog ops Q (o :: rest) a w := by
 obtain ⟨i0, hi, hz0, hz1, hz2⟩ := info_parts Tryz.infoByte
 have hms : (⟨m.toArray⟩ : ByteArray).size = m.length := by simp [ByteArray.size]
 refine Lib.wpList_append_own_stringF _ hgd s x 301 9 ho B 5 i0 Tryz.underlying301 Tryz.underlying9 hi hz0 hz1 hz2 v l.length (u8s l) hs hown ⟨m.toArray⟩ hx ?_ ?_ hbase ?_
 ·rw [hms]; unfold maxLen; omega
 ·rw [hms]; omega
 ·intro v' w' h1 h2 _
  refine h v' w' ?_ h2
  unfold FB
  rw [u8s_app, List.length_append]
  rw [hms] at h1
  exact h1
structure BufAt (w : World) (B gb : Nat) (l : List UInt8) : Prop where
 ex : ∃ v, w.heap[gb]? = some (.cells #[v] 301 (0, 0)) ∧ FB w B v l
 lo : B ≤ gb
theorem BufAt.lt {w : World} {B gb : Nat} {l : List UInt8} (h : BufAt w B gb l) : gb < w.heap.size := by
 obtain ⟨v, h1, _⟩ := h.ex
 exact (Array.getElem?_eq_some_iff.1 h1).1
theorem BufAt.below {w w' : World} {B gb : Nat} {l : List UInt8} (h : BufAt w B gb l) (hb : Below w.heap.size w w') : BufAt w' B gb l := by
 obtain ⟨v, h1, h2⟩ := h.ex
 exact ⟨⟨v, (hb.block gb h.lt).trans h1, h2.below hb⟩, h.lo⟩
theorem BufAt.put {w w' : World} {B gb : Nat} {l m : List UInt8} {v v' : Value} (h : w.heap[gb]? = some (.cells #[v] 301 (0, 0))) (hlo : B ≤ gb) (hv : FB w B v l) (hf : FB w' B v' m) (hg : w.grownBy w' v.ownBlock) :
  BufAt (w'.setCell ⟨gb, 0, none⟩ v') B gb m ∧ Below B w (w'.setCell ⟨gb, 0, none⟩ v') := by
 have hlt := (Array.getElem?_eq_some_iff.1 h).1
 have hne : some gb ≠ v.ownBlock := fun e => by
  obtain ⟨c, fz, hc⟩ := Lib.ownsRowF_kind hv gb e.symm
  rw [h] at hc
  injection hc with hc
  injection hc with _ h2
  exact absurd h2 (by decide)
 have h1 : w'.heap[gb]? = some (.cells #[v] 301 (0, 0)) := (hg.block gb hlt hne).trans h
 have hne2 : v'.ownBlock ≠ some gb := fun e => by
  obtain ⟨c, fz, hc⟩ := Lib.ownsRowF_kind hf gb e
  rw [h1] at hc
  injection hc with hc
  injection hc with _ h2
  exact absurd h2 (by decide)
 refine ⟨⟨⟨v', ?_, ?_⟩, hlo⟩, ?_⟩
 ·rw [Joins.block_setCell h1]; rfl
 ·refine ⟨hf.1, ?_⟩
  rcases hf.2 with hn | ⟨g, cap, cur, fz, hv2, hbg, hgg, rest⟩
  ·exact .inl hn
  refine .inr ⟨g, cap, cur, fz, hv2, hbg, ?_, rest⟩
  have hgne : g ≠ gb := fun e => hne2 (by rw [hv2, e]; rfl)
  rw [(Apart.set (S := fun k => k = gb) w' (a := ⟨gb, 0, none⟩) rfl v').block g (Array.getElem?_eq_some_iff.1 hgg).1 hgne]
  exact hgg
 ·have h2 : Below B w w' := by
   by_cases hB : B ≤ w.heap.size
   ·exact (Below.refl B w).grown hg hB (fun k hk => (hv.lt k hk).1)
   ·exact absurd (Nat.le_trans hlo (Nat.le_of_lt hlt)) hB
  exact h2.setCell (p := ⟨gb, 0, none⟩) hlo v'
set_option maxHeartbeats 4000000 in
theorem asw_calls (B gb : Nat) (l m : List UInt8) (w : World) (h : BufAt w B gb l) (hl : l.length + m.length ≤ 10000000000) :
  Calls Tryz.prog 283 #[.pointer (some ⟨gb, 0, none⟩), .string ⟨m.toArray⟩] w fun e w' => e = .returned (.tuple #[.int .i64 (m.length : Int), .nilIface]) ∧ BufAt w' B gb (l ++ m) ∧ Below B w w' := by
 obtain ⟨v, h1, h2⟩ := h.ex
 have H1 := Lib.hid h1
 have H2 := Lib.hid h2
 have HLO := Lib.hid h.lo
 have hlt := h.lt
 have c0 : w.cell? ⟨gb, 0, none⟩ = some v := by rw [Joins.cell_of_block h1]; rfl
 have HBS : Hid (B ≤ w.heap.size) := Lib.hid (Nat.le_trans h.lo (Nat.le_of_lt hlt))
 have HLT := Lib.hid hlt
 have HL := Lib.hid hl
 clear h h1 h2 hlt hl
 go_enter Tryz.func283, Tryz.ntmps283
 go_wp2_with (at_builtin; refine wpList_append_W rfl _ _ rfl B v l rfl H2.out m rfl ?e1 ?e2 ?_)
 case e1 => have := HL.out; omega
 case e2 => exact HBS.out
 intro v' w' hF hg
 obtain ⟨pv, cv, hpv⟩ := hF.slice
 rw [List.length_append] at hpv
 subst hpv
 have hput := BufAt.put H1.out HLO.out H2.out hF hg
 have hne : some gb ≠ v.ownBlock := fun e => by
  obtain ⟨c, fz, hc⟩ := Lib.ownsRowF_kind H2.out gb e.symm
  rw [H1.out] at hc
  injection hc with hc
  injection hc with _ h2
  exact absurd h2 (by decide)
 have h1' : w'.heap[gb]? = some (.cells #[v] 301 (0, 0)) := (hg.block gb HLT.out hne).trans H1.out
 have k0 : w'.cell? ⟨gb, 0, none⟩ = some v := by rw [Joins.cell_of_block h1']; rfl
 have f0 := Joins.unfrozen_of_block h1' 0
 have HP := Lib.hid hput
 clear hput h1' hne hF hg c0
 go_wp2_with fail
 go_ret2
 exact ⟨rfl, HP.out.1, HP.out.2⟩
def splitC (c : UInt8) : List UInt8 → List (List UInt8)
 | [] => [[]]
 | x :: t => if x = c then [] :: splitC c t else match splitC c t with
  | [] => [[x]]
  | h :: r => (x :: h) :: r
theorem splitC_ne (c : UInt8) (s : List UInt8) : ∃ h r, splitC c s = h :: r := by
 cases s with
 | nil => exact ⟨_, _, rfl⟩
 | cons x t =>
  rw [splitC]
  split
  ·exact ⟨_, _, rfl⟩
  split <;> exact ⟨_, _, rfl⟩
theorem split_one (c : UInt8) : ∀ s : List UInt8, Lib.split s [c] = splitC c s
 | [] => rfl
 | x :: t => by
  have ih := split_one c t
  unfold Lib.split at ih ⊢
  rw [splitC]
  by_cases e : x = c
  ·subst e
   rw [if_pos rfl, Lib.count_cons_eq, Nat.add_comm, Lib.splitK]
   have hi : Lib.index (x :: t) [x] = 0 := by simp [Lib.index]
   rw [hi, if_neg (by decide)]
   simp [ih]
  rw [if_neg e, Lib.count_cons_ne x c t e]
  have hi : Lib.index (x :: t) [c] = if Lib.index t [c] == -1 then -1 else Lib.index t [c] + 1 := by
   rw [Lib.index, if_neg]
   simp [List.isPrefixOf, Ne.symm e]
  cases hk : Lib.count t [c] with
  | zero =>
   rw [hk, Lib.splitK] at ih
   rw [Lib.splitK, ← ih]
  | succ k =>
   rw [hk, Lib.splitK] at ih
   rw [Lib.splitK, hi]
   by_cases h1 : (Lib.index t [c] == -1) = true
   ·rw [if_pos h1] at ih ⊢
    rw [if_pos (by decide), ← ih]
   rw [if_neg h1] at ih ⊢
   have h2 := Lib.index_ge t [c]
   have h3 : Lib.index t [c] ≠ -1 := by simpa using h1
   rw [if_neg (by simp; omega), ← ih]
   have h4 : (Lib.index t [c] + 1).toNat = (Lib.index t [c]).toNat + 1 := by omega
   simp only [h4, Nat.add_zero, List.take_succ_cons, List.length_singleton, List.drop_succ_cons]
def tilN : List UInt8 → Option (List UInt8)
 | [] => some []
 | c :: t => if c = 126 then (match t with
   | [] => none
   | c2 :: r => if c2 = 48 then (tilN r).map (126 :: ·) else if c2 = 49 then (tilN r).map (47 :: ·) else none)
  else (tilN t).map (c :: ·)
theorem tilN_cons (c : UInt8) (t : List UInt8) (h : c ≠ 126) : tilN (c :: t) = (tilN t).map (c :: ·) := by
 cases t with
 | nil => simp [tilN, h]
 | cons c2 r => rw [tilN, if_neg h]
def tilAll : List (List UInt8) → Option (List (List UInt8))
 | [] => some []
 | s :: r => match tilN s with
  | none => none
  | some u => (tilAll r).map (u :: ·)
def pathS (s : List UInt8) : Option (List (List UInt8)) := match s with
 | [] => some []
 | c :: t => if c = 47 then tilAll (splitC 47 t) else none
def replS (a b : List UInt8) : List UInt8 → List UInt8
 | [] => []
 | [c] => [c]
 | c :: c2 :: r => if c = 126 then (if c2 = 48 then a ++ replS a b r else if c2 = 49 then b ++ replS a b r else 126 :: replS a b (c2 :: r))
  else c :: replS a b (c2 :: r)
theorem replS_cons (a b : List UInt8) (c : UInt8) (t : List UInt8) (h : c ≠ 126) : replS a b (c :: t) = c :: replS a b t := by
 cases t with
 | nil => rfl
 | cons c2 r => rw [replS, if_neg h]
theorem tilN_none : ∀ s : List UInt8, (tilN s = none ↔ 126 ∈ replS [] [] s) ∧ ∀ u, tilN s = some u → u = replS [126] [47] s
 | [] => by simp [tilN, replS]
 | c :: t => by
  by_cases h : c = 126
  ·subst h
   cases t with
   | nil => simp [tilN, replS]
   | cons c2 r =>
    have ih := tilN_none r
    by_cases h48 : c2 = 48
    ·subst h48
     simp only [tilN, replS]
     simp only [if_true, List.nil_append, Option.map_eq_none_iff, List.singleton_append, Option.map_eq_some_iff]
     exact ⟨ih.1, fun u ⟨v, h1, h2⟩ => by rw [← h2, ih.2 v h1]⟩
    by_cases h49 : c2 = 49
    ·subst h49
     simp only [tilN, replS]
     simp only [if_true, if_neg (show ¬ (49 : UInt8) = 48 by decide), List.nil_append, Option.map_eq_none_iff, List.singleton_append, Option.map_eq_some_iff]
     exact ⟨ih.1, fun u ⟨v, h1, h2⟩ => by rw [← h2, ih.2 v h1]⟩
    simp [tilN, replS, h48, h49]
  have ih := tilN_none t
  rw [tilN_cons _ _ h, replS_cons _ _ _ _ h, replS_cons _ _ _ _ h]
  simp only [Option.map_eq_none_iff, Option.map_eq_some_iff, List.mem_cons]
  exact ⟨⟨fun h1 => .inr (ih.1.1 h1), fun h1 => ih.1.2 (h1.resolve_left (fun e => h e.symm))⟩, fun u ⟨v, h1, h2⟩ => by rw [← h2, ih.2 v h1]⟩
open Go.RowKit
def TrieLt (B gr gt gA gu gB gC : Nat) : Prop := gr < B ∧ gt < B ∧ gA < B ∧ gu < B ∧ gB < B ∧ gC < B
theorem TrieAt.under {w w' : World} {B lo gr : Nat} {a b : List UInt8} {gt gA gu gB gC : Nat} (h : TrieAt w lo gr a b gt gA gu gB gC) (hl : TrieLt B gr gt gA gu gB gC) (hb : Below B w w') : TrieAt w' lo gr a b gt gA gu gB gC := by
 have ha : Apart (fun k => B ≤ k) w w' := ⟨hb.os, hb.tape, hb.output, hb.size, fun k _ hn => hb.block k (by omega)⟩
 obtain ⟨l1, l2, l3, l4, l5, l6⟩ := hl
 exact ⟨h.g.apart ha (by omega), h.t.apart ha (by omega), h.nA.apart ha (by omega), h.u.apart ha (by omega), h.nB.apart ha (by omega), h.nC.apart ha (by omega), h.lo, h.ne⟩
theorem repl_look (a b s : List UInt8) : ((lookS a b s).2.2 = true ∧ (lookS a b s).2.1 = 2 ∧ 2 ≤ s.length ∧ replS a b s = (lookS a b s).1 ++ replS a b (s.drop 2)) ∨ ((lookS a b s).2.2 = false ∧ (lookS a b s).2.1 = 0 ∧ (s = [] ∨ ∃ c t, s = c :: t ∧ replS a b s = c :: replS a b t)) := by
 match s with
 | [] => exact .inr ⟨rfl, rfl, .inl rfl⟩
 | [c] => exact .inr ⟨by by_cases h : c = 126 <;> (try subst h) <;> first | rfl | (rw [lookS_one a b c [] h]), by by_cases h : c = 126 <;> (try subst h) <;> first | rfl | (rw [lookS_one a b c [] h]), .inr ⟨c, [], rfl, rfl⟩⟩
 | c :: d :: t =>
  by_cases h : c = 126
  ·subst h
   by_cases h0 : d = 48
   ·subst h0; exact .inl ⟨rfl, rfl, by simp, rfl⟩
   by_cases h1 : d = 49
   ·subst h1; exact .inl ⟨rfl, rfl, by simp, rfl⟩
   rw [lookS_two a b d t h0 h1]
   refine .inr ⟨rfl, rfl, .inr ⟨126, d :: t, rfl, ?_⟩⟩
   rw [replS, if_pos rfl, if_neg h0, if_neg h1]
  rw [lookS_one a b c (d :: t) h]
  exact .inr ⟨rfl, rfl, .inr ⟨c, d :: t, rfl, replS_cons a b c (d :: t) h⟩⟩
def WrI (a b s acc : List UInt8) (last i : Nat) : Prop := acc ++ ((s.take i).drop last ++ replS a b (s.drop i)) = replS a b s
theorem WrI.start (a b s : List UInt8) : WrI a b s [] 0 0 := by simp [WrI]
theorem WrI.step {a b s acc : List UInt8} {last i : Nat} (h : WrI a b s acc last i) (hi : i < s.length) (hl : last ≤ i) (hr : replS a b (s.drop i) = s.getD i 0 :: replS a b (s.drop (i + 1))) : WrI a b s acc last (i + 1) := by
 unfold WrI at h ⊢
 rw [← h, hr, List.take_succ_eq_append_getElem hi, List.drop_append_of_le_length (by rw [List.length_take]; omega)]
 simp [List.getD_eq_getElem?_getD, hi]
theorem WrI.over {a b s acc : List UInt8} {last i : Nat} (h : WrI a b s acc last i) (hi : s.length ≤ i) : acc ++ s.drop last = replS a b s := by
 unfold WrI at h
 rw [← h, List.take_of_length_le hi, List.drop_eq_nil_of_le hi]
 simp [replS]
theorem WrI.past {a b s acc : List UInt8} {last i : Nat} (h : WrI a b s acc last i) (hi : s.length ≤ i) : WrI a b s acc last (i + 1) := by
 unfold WrI at h ⊢
 rw [← h, List.take_of_length_le hi, List.take_of_length_le (show s.length ≤ i + 1 by omega), List.drop_eq_nil_of_le hi, List.drop_eq_nil_of_le (show s.length ≤ i + 1 by omega)]
theorem WrI.turn {a b s acc x : List UInt8} {last i : Nat} (h : WrI a b s acc last i) (hr : replS a b (s.drop i) = x ++ replS a b (s.drop (i + 2))) : WrI a b s (acc ++ (s.take i).drop last ++ x) (i + 2) (i + 2) := by
 unfold WrI at h ⊢
 have h0 : (s.take (i + 2)).drop (i + 2) = [] := List.drop_eq_nil_of_le (by rw [List.length_take]; omega)
 rw [← h, hr, h0]
 simp [List.append_assoc]
theorem ext_drop9 (l : List UInt8) (a : Nat) : (⟨l.toArray⟩ : ByteArray).extract a l.length = ⟨(l.drop a).toArray⟩ := by rw [Lib.extract_eq]; rw [List.take_of_length_le (by simp)]
theorem replS_len (a b : List UInt8) (h : a.length ≤ 4 ∧ b.length ≤ 4) : ∀ (n : Nat) (s : List UInt8), s.length ≤ n → (replS a b s).length ≤ 9 * s.length
 | _, [], _ => by simp [replS]
 | _, [_], _ => by simp [replS]
 | 0, _ :: _ :: _, hn => by simp at hn
 | n + 1, c :: d :: t, hn => by
  have h1 := replS_len a b h n t (by simp at hn; omega)
  have h2 := replS_len a b h n (d :: t) (by simp at hn ⊢; omega)
  rw [replS]
  simp only [List.length_cons] at h2 ⊢
  split
  ·split
   ·rw [List.length_append]; omega
   split
   ·rw [List.length_append]; omega
   rw [List.length_cons]; omega
  rw [List.length_cons]; omega
theorem WrI.len {a b s acc : List UInt8} {last i : Nat} (h : WrI a b s acc last i) (hab : a.length ≤ 4 ∧ b.length ≤ 4) : acc.length ≤ 9 * s.length := by
 have h1 := replS_len a b hab _ s (Nat.le_refl _)
 have h2 := congrArg List.length h
 simp only [List.length_append] at h2
 omega
end Go.Proofs.YtfclfaidmipjpaaGreatDoor
