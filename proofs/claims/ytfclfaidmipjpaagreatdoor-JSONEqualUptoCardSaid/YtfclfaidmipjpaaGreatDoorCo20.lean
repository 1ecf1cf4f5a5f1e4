/- Texts of this claim, joined: Tww, Qu4, Trr, Trp. -/
import Derived.Test.YtfclfaidmipjpaaGreatDoorCo11
import Derived.Test.YtfclfaidmipjpaaGreatDoorCo19
namespace Go.Proofs.YtfclfaidmipjpaaGreatDoor
set_option maxRecDepth 100000
open Go.RowKit
theorem na_writer (gb : Nat) (W : World) : (nilAhead 414 302 (.pointer (some ⟨gb, 0, none⟩)) "WriteString").run Tryz.prog W = .ok (some false) W := by kernel_rfl
set_option maxHeartbeats 8000000 in
theorem gws_calls (w : World) {B lo gr gb : Nat} {a b : List UInt8} {gt gA gu gB gC : Nat} (h : TrieAt w lo gr a b gt gA gu gB gC) (hlt : TrieLt B gr gt gA gu gB gC) (hbuf : BufAt w B gb []) (hab : a.length ≤ 4 ∧ b.length ≤ 4) (s : List UInt8) (hsl : s.length ≤ 100000000) :
  Calls Tryz.prog 271 #[.pointer (some ⟨gr, 0, none⟩), .iface 302 (.pointer (some ⟨gb, 0, none⟩)), .string ⟨s.toArray⟩] w fun e w' => (∃ v, e = .returned v) ∧ BufAt w' B gb (replS a b s) ∧ Below B w w' := by
 have HT := Lib.hid h
 have HLT := Lib.hid hlt
 have HBUF := Lib.hid hbuf
 have HAB := Lib.hid hab
 have HBS : Hid (B ≤ w.heap.size) := Lib.hid (Nat.le_trans hbuf.lo (Nat.le_of_lt hbuf.lt))
 clear h hlt hbuf hab
 have hna := na_writer gb
 have hmf : ∀ (m : String) (first cap : Array Value) (w : World), (Instr.makeFunc (.method m) first cap).run Tryz.prog w = .ok (.func (.method m) first cap) w := fun _ _ _ _ => rfl
 have hw0 : IntKind.i64.wrap 0 = 0 := rfl
 have hw1 : IntKind.i64.wrap 1 = 1 := rfl
 have hw2 : IntKind.i64.wrap 2 = 2 := rfl
 have hw3 : IntKind.i64.wrap 3 = 3 := rfl
 go_enter Tryz.func271, Tryz.ntmps271
 go_wp2_with fail
 refine (gsw_calls gb w).mono ?_
 rintro e w1 ⟨rfl, rfl⟩
 go_wp2_with fail
 go_loopg [6, 7, 9, 10, 11, 12] (s.length + 2) (fun kk s6 s7 s9 s10 s11 s12 wr => ∃ (i last : Nat) (n : Int) (acc : List UInt8) (x10 : Value), kk = s.length + 2 - i ∧ i ≤ s.length + 1 ∧ last ≤ i ∧ last ≤ s.length ∧ s6 = .int .i64 n ∧ s7 = .nilIface ∧ s9 = .int .i64 (last : Int) ∧ x10 = s10 ∧ s11 = .bool false ∧ s12 = .int .i64 (i : Int) ∧ BufAt wr B gb acc ∧ Below B w wr ∧ WrI a b s acc last i)
 case atStart => exact ⟨0, 0, 0, [], _, rfl, by omega, by omega, by omega, rfl, rfl, rfl, rfl, rfl, rfl, HBUF.out, Below.refl _ _, WrI.start a b s⟩
 case round =>
  obtain ⟨i, last, n, acc, x10, hki, hi, hli, hls, rfl, rfl, rfl, rfl, rfl, rfl, hbf, hbr, hwr⟩ := hrel
  have Hki := Lib.hid hki
  have HBF := Lib.hid hbf
  have HBR := Lib.hid hbr
  have HWR := Lib.hid hwr
  have HLI := Lib.hid hli
  have HTR := Lib.hid (HT.out.under HLT.out hbr)
  have HACC := Lib.hid (hwr.len HAB.out)
  clear hki hbf hbr hwr hli HBUF
  have k1 := HTR.out.g.pri
  have k4 := HTR.out.g.tab
  have k5 := HTR.out.g.size
  by_cases hlt : i < s.length
  ·
   have hlti : (i : Int) < (s.length : Int) := by omega
   have hltj : (i : Int) ≤ (s.length : Int) := by omega
   have hltk : ((i : Int) == (s.length : Int)) = false := by rw [beq_eq_false_iff_ne]; omega
   have hij := byte_at s i hlt
   obtain ⟨c, hc⟩ : ∃ c, s.getD i 0 = c := ⟨_, rfl⟩
   rw [hc] at hij
   have HC := Lib.hid hc
   have hdc : s.drop i = c :: s.drop (i + 1) := by rw [List.drop_eq_getElem_cons hlt, ← hc]; simp [List.getD_eq_getElem?_getD, hlt]
   have HDC := Lib.hid hdc
   clear hc hdc
   have hcl : c.toNat < 256 := c.toNat_lt
   have hcli : (c.toNat : Int) < 256 := by omega
   have km := HTR.out.g.map c
   have HM := Lib.hid (mapV_cases c)
   obtain ⟨m, hm⟩ : ∃ m, mapV c = m := ⟨_, rfl⟩
   rw [hm] at km HM
   clear hm
   go_wp2_with fail
   go_quiet (fail)
   have HTQ := Lib.hid (HTR.out.below (below_drewN (Below.refl _ _) nq))
   have HBQ := Lib.hid (HBR.out.trans (below_drewN (Below.refl B wr) nq))
   have HFQ := Lib.hid (HBF.out.below (below_drewN (Below.refl _ _) nq))
   generalize wr.drewN nq = wq at *
   clear k1 k4 k5 km HTR HBR HBF hij
   have k1 := HTQ.out.g.pri
   have k4 := HTQ.out.g.tab
   have k5 := HTQ.out.g.size
   rcases HM.out with ⟨hc, rfl⟩ | ⟨hc, rfl⟩ | ⟨hc, rfl⟩ | ⟨hc1, hc2, hc, rfl⟩
   ·
    rw [show wrap64 0 = 0 from (by unfold wrap64; omega)]
    have HWN : Hid (WrI a b s acc last (i + 1)) := Lib.hid (HWR.out.step hlt HLI.out (by rw [HDC.out, HC.out]; exact replS_cons a b c _ (by first | exact hc | (rw [hc]; decide))))
    have t0 : _ = some (Value.pointer none) := HTQ.out.t.cell 0 _ rfl
    go_wp2_with fail
    go_roundg (s.length + 2 - (i + 1))
    case measure => have := Hki.out; omega
    exact ⟨i + 1, last, n, acc, _, rfl, by omega, by have := HLI.out; omega, hls, rfl, rfl, rfl, rfl, rfl, by go_num, HFQ.out, HBQ.out, HWN.out⟩
   ·
    rw [show wrap64 1 = 1 from (by unfold wrap64; omega)]
    have HWN : Hid (WrI a b s acc last (i + 1)) := Lib.hid (HWR.out.step hlt HLI.out (by rw [HDC.out, HC.out]; exact replS_cons a b c _ (by first | exact hc | (rw [hc]; decide))))
    have t0 : _ = some (Value.pointer none) := HTQ.out.t.cell 1 _ rfl
    go_wp2_with fail
    go_roundg (s.length + 2 - (i + 1))
    case measure => have := Hki.out; omega
    exact ⟨i + 1, last, n, acc, _, rfl, by omega, by have := HLI.out; omega, hls, rfl, rfl, rfl, rfl, rfl, by go_num, HFQ.out, HBQ.out, HWN.out⟩
   ·
    rw [show wrap64 2 = 2 from (by unfold wrap64; omega)]
    have t0 : _ = some (Value.pointer (some ⟨gA, 0, none⟩)) := HTQ.out.t.cell 2 _ rfl
    have hext := ext_drop9 s i
    have hdl : (s.drop i).length ≤ 1000000000 := by rw [List.length_drop]; omega
    go_wp2_with fail
    refine (look_calls wq HTQ.out (s.drop i) hdl).mono ?_
    rintro e w2 ⟨rfl, hb2⟩
    have HT2 := Lib.hid (HTQ.out.below hb2)
    have HB2 := Lib.hid (HBQ.out.trans (hb2.mono (Nat.le_trans HBS.out HBQ.out.size)))
    have HF2 := Lib.hid (HFQ.out.below hb2)
    clear hb2 k1 k4 k5 t0 HTQ HBQ HFQ hext hdl
    have HRL := Lib.hid (repl_look a b (s.drop i))
    obtain ⟨q, hq⟩ : ∃ q, lookS a b (s.drop i) = q := ⟨_, rfl⟩
    rw [hq] at HRL ⊢
    clear hq
    obtain ⟨val, kl, fd⟩ := q
    rcases HRL.out with ⟨hf1, hf2, hf3, hf4⟩ | ⟨hf1, hf2, hf3⟩
    ·
     simp only at hf1 hf2 hf4
     subst hf1 hf2
     rw [List.drop_drop] at hf4
     have HRR := Lib.hid hf4
     have hi2 : i + 2 ≤ s.length := by rw [List.length_drop] at hf3; omega
     clear hf3 hf4
     have HVL : Hid (val.length ≤ 900000000) := Lib.hid (by have h1 := replS_len a b HAB.out _ (s.drop i) (Nat.le_refl _); rw [HRR.out, List.length_append, List.length_drop] at h1; omega)
     go_upto_region 13 with fail
     have hex2 : (⟨s.toArray⟩ : ByteArray).extract last i = ⟨((s.take i).drop last).toArray⟩ := by rw [Lib.extract_eq, List.drop_take]
     have hb1 : (last : Int) ≤ (i : Int) := by have := HLI.out; omega
     have HFD := Lib.hid (HF2.out.below (Below.refl _ _).drew)
     have HBD := Lib.hid (HB2.out.trans ((Below.refl B w2).drew))
     refine wp_region_held_drew (S := (fun _ : World => True)) (by kernel_rfl) trivial (fun hHeld0 => ?_)
     generalize w2.drew = wd at *
     refine held_tk 0 ?_ (fun wq hSq => ?_) hHeld0 ?_
     rotate_left
     ·(try dsimp only at hSq); go_simp; try with_reducible rfl
     simp only [Act.put, sbA, sbB, sbC]
     refine held_tk 1 ?_ (fun wq hSq => ?_) hHeld0 ?_
     rotate_left
     ·(try dsimp only at hSq); go_simp; try with_reducible rfl
     simp only [Act.put, sbA, sbB, sbC]
     refine held_tk 2 ?_ (fun wq hSq => ?_) hHeld0 ?_
     rotate_left
     ·(try dsimp only at hSq); go_simp; try with_reducible rfl
     simp only [Act.put, sbA, sbB, sbC]
     refine held_tk 3 ?_ (fun wq hSq => ?_) hHeld0 ?_
     rotate_left
     ·(try dsimp only at hSq); go_simp; try with_reducible rfl
     simp only [Act.put, sbA, sbB, sbC]
     refine held_tk 4 ?_ (fun wq hSq => ?_) hHeld0 ?_
     rotate_left
     ·(try dsimp only at hSq); go_simp; try with_reducible rfl
     simp only [Act.put, sbA, sbB, sbC]
     refine held_tk 5 ?_ (fun wq hSq => ?_) hHeld0 ?_
     rotate_left
     ·(try dsimp only at hSq); go_simp; try with_reducible rfl
     simp only [Act.put, sbA, sbB, sbC]
     refine held_tk 6 ?_ (fun wq hSq => ?_) hHeld0 ?_
     rotate_left
     ·(try dsimp only at hSq); go_simp; try with_reducible rfl
     simp only [Act.put, sbA, sbB, sbC]
     refine held_tk 7 ?_ (fun wq hSq => ?_) hHeld0 ?_
     rotate_left
     ·(try dsimp only at hSq); go_simp; try with_reducible rfl
     simp only [Act.put, sbA, sbB, sbC]
     refine held_step (i := 8) (by kernel_rfl) rfl (by rfl) (fun K hK => ?_)
     go_simp
     refine (asw_calls B gb acc ((s.take i).drop last) wd HFD.out (by have h8 := HACC.out; have h9 : ((s.take i).drop last).length ≤ s.length := (by rw [List.length_drop, List.length_take]; omega); omega)).mono ?_
     rintro ez w3 ⟨rfl, hf3, hb3⟩
     have HF3 := Lib.hid hf3
     have HB3 := Lib.hid (HBD.out.trans hb3)
     clear hf3 hb3
     refine hK.out _ _ trivial (fun hHeld1 => ?_)
     clear hK K hHeld0
     refine held_tk 9 ?_ (fun wq hSq => ?_) hHeld1 ?_
     rotate_left
     ·(try dsimp only at hSq); go_simp; try with_reducible rfl
     simp only [Act.put, sbA, sbB, sbC]
     refine held_tk 10 ?_ (fun wq hSq => ?_) hHeld1 ?_
     rotate_left
     ·(try dsimp only at hSq); go_simp; try with_reducible rfl
     simp only [Act.put, sbA, sbB, sbC]
     refine held_tk 11 ?_ (fun wq hSq => ?_) hHeld1 ?_
     rotate_left
     ·(try dsimp only at hSq); go_simp; try with_reducible rfl
     simp only [Act.put, sbA, sbB, sbC]
     refine held_tk 12 ?_ (fun wq hSq => ?_) hHeld1 ?_
     rotate_left
     ·(try dsimp only at hSq); go_simp; try with_reducible rfl
     simp only [Act.put, sbA, sbB, sbC]
     refine held_tk 13 ?_ (fun wq hSq => ?_) hHeld1 ?_
     rotate_left
     ·(try dsimp only at hSq); go_simp; try with_reducible rfl
     simp only [Act.put, sbA, sbB, sbC]
     refine wpAnyH_done (by kernel_rfl) ?_ _
     clear hHeld1
     go_wp2_with fail
     refine (asw_calls B gb _ val w3 HF3.out (by have h8 := HACC.out; have h7 := HVL.out; have h9 : ((s.take i).drop last).length ≤ s.length := (by rw [List.length_drop, List.length_take]; omega); rw [List.length_append]; omega)).mono ?_
     rintro ez w4 ⟨rfl, hf4, hb4⟩
     have HF4 := Lib.hid hf4
     have HB4 := Lib.hid (HB3.out.trans hb4)
     clear hf4 hb4
     go_wp2_with fail
     go_roundg (s.length + 2 - (i + 2))
     case measure => have := Hki.out; omega
     exact ⟨i + 2, i + 2, _, acc ++ (s.take i).drop last ++ val, _, rfl, by omega, by omega, hi2, rfl, rfl, by go_num, rfl, rfl, by go_num, HF4.out, HB4.out, HWR.out.turn HRR.out⟩
    simp only at hf1 hf2
    subst hf1 hf2
    have HWN : Hid (WrI a b s acc last (i + 1)) := Lib.hid (HWR.out.step hlt HLI.out (by rcases hf3 with h9 | ⟨c9, t9, h9, h8⟩; (rw [HDC.out] at h9; cases h9); (rw [HDC.out] at h9; injection h9 with h9 h10; rw [h8, HC.out, h9, h10])))
    clear hf3
    go_wp2_with fail
    go_roundg (s.length + 2 - (i + 1))
    case measure => have := Hki.out; omega
    exact ⟨i + 1, last, n, acc, _, rfl, by omega, by have := HLI.out; omega, hls, rfl, rfl, rfl, rfl, rfl, by go_num, HF2.out, HB2.out, HWN.out⟩
   rw [show wrap64 3 = 3 from (by unfold wrap64; omega)]
   have HWN : Hid (WrI a b s acc last (i + 1)) := Lib.hid (HWR.out.step hlt HLI.out (by rw [HDC.out, HC.out]; exact replS_cons a b c _ (by first | exact hc | (rw [hc]; decide))))
   go_wp2_with fail
   go_roundg (s.length + 2 - (i + 1))
   case measure => have := Hki.out; omega
   exact ⟨i + 1, last, n, acc, _, rfl, by omega, by have := HLI.out; omega, hls, rfl, rfl, rfl, rfl, rfl, by go_num, HFQ.out, HBQ.out, HWN.out⟩
  by_cases hle : i = s.length
  ·
   have HWN : Hid (WrI a b s acc last (i + 1)) := Lib.hid (HWR.out.past (by omega))
   have HIS := Lib.hid hle
   subst hle
   have hltj : (s.length : Int) ≤ (s.length : Int) := by omega
   have hext : (⟨s.toArray⟩ : ByteArray).extract s.length s.length = ⟨([] : List UInt8).toArray⟩ := by rw [ext_drop9]; simp
   clear hlt
   go_wp2_with fail
   refine (look_calls wr HTR.out [] (by simp)).mono ?_
   rintro e w2 ⟨rfl, hb2⟩
   have HB2 := Lib.hid (HBR.out.trans (hb2.mono (Nat.le_trans HBS.out HBR.out.size)))
   have HF2 := Lib.hid (HBF.out.below hb2)
   clear hb2 k1 k4 k5 HTR HBR HBF hext
   rw [show lookS a b [] = ([], 0, false) from rfl]
   go_wp2_with fail
   go_roundg (s.length + 2 - (s.length + 1))
   case measure => have := Hki.out; omega
   exact ⟨s.length + 1, last, n, acc, _, rfl, by omega, by omega, hls, rfl, rfl, rfl, rfl, rfl, by go_num, HF2.out, HB2.out, HWN.out⟩
  obtain rfl : i = s.length + 1 := by omega
  have hnle : ¬ ((s.length + 1 : Nat) : Int) ≤ (s.length : Int) := by omega
  have HFN := Lib.hid (HWR.out.over (by omega))
  by_cases hll : last = s.length
  ·
   have HFA : Hid (acc = replS a b s) := Lib.hid (by have h9 := HFN.out; rw [hll, List.drop_length, List.append_nil] at h9; exact h9)
   subst hll
   go_wp2_with fail
   go_ret2
   exact ⟨⟨_, rfl⟩, by rw [← HFA.out]; exact HBF.out, HBR.out⟩
  have hlk : ((last : Int) == (s.length : Int)) = false := by rw [beq_eq_false_iff_ne]; omega
  have hlj : (last : Int) ≤ (s.length : Int) := by omega
  go_upto_region 23 with fail
  have hex2 := ext_drop9 s last
  have HFD := Lib.hid (HBF.out.below (Below.refl _ _).drew)
  have HBD := Lib.hid (HBR.out.trans ((Below.refl B wr).drew))
  refine wp_region_held_drew (S := (fun _ : World => True)) (by kernel_rfl) trivial (fun hHeld0 => ?_)
  generalize wr.drew = wd at *
  refine held_tk 0 ?_ (fun wq hSq => ?_) hHeld0 ?_
  rotate_left
  ·(try dsimp only at hSq); go_simp; try with_reducible rfl
  simp only [Act.put, sbA, sbB, sbC]
  refine held_tk 1 ?_ (fun wq hSq => ?_) hHeld0 ?_
  rotate_left
  ·(try dsimp only at hSq); go_simp; try with_reducible rfl
  simp only [Act.put, sbA, sbB, sbC]
  refine held_tk 2 ?_ (fun wq hSq => ?_) hHeld0 ?_
  rotate_left
  ·(try dsimp only at hSq); go_simp; try with_reducible rfl
  simp only [Act.put, sbA, sbB, sbC]
  refine held_tk 3 ?_ (fun wq hSq => ?_) hHeld0 ?_
  rotate_left
  ·(try dsimp only at hSq); go_simp; try with_reducible rfl
  simp only [Act.put, sbA, sbB, sbC]
  refine held_tk 4 ?_ (fun wq hSq => ?_) hHeld0 ?_
  rotate_left
  ·(try dsimp only at hSq); go_simp; try with_reducible rfl
  simp only [Act.put, sbA, sbB, sbC]
  refine held_tk 5 ?_ (fun wq hSq => ?_) hHeld0 ?_
  rotate_left
  ·(try dsimp only at hSq); go_simp; try with_reducible rfl
  simp only [Act.put, sbA, sbB, sbC]
  refine held_tk 6 ?_ (fun wq hSq => ?_) hHeld0 ?_
  rotate_left
  ·(try dsimp only at hSq); go_simp; try with_reducible rfl
  simp only [Act.put, sbA, sbB, sbC]
  refine held_step (i := 7) (by kernel_rfl) rfl (by rfl) (fun K hK => ?_)
  go_simp
  refine (asw_calls B gb acc (s.drop last) wd HFD.out (by have h8 := HACC.out; have h9 : (s.drop last).length ≤ s.length := (by rw [List.length_drop]; omega); omega)).mono ?_
  rintro ez w3 ⟨rfl, hf3, hb3⟩
  have HF3 := Lib.hid hf3
  have HB3 := Lib.hid (HBD.out.trans hb3)
  clear hf3 hb3
  refine hK.out _ _ trivial (fun hHeld1 => ?_)
  clear hK K hHeld0
  refine held_tk 8 ?_ (fun wq hSq => ?_) hHeld1 ?_
  rotate_left
  ·(try dsimp only at hSq); go_simp; try with_reducible rfl
  simp only [Act.put, sbA, sbB, sbC]
  refine held_tk 9 ?_ (fun wq hSq => ?_) hHeld1 ?_
  rotate_left
  ·(try dsimp only at hSq); go_simp; try with_reducible rfl
  simp only [Act.put, sbA, sbB, sbC]
  refine held_tk 10 ?_ (fun wq hSq => ?_) hHeld1 ?_
  rotate_left
  ·(try dsimp only at hSq); go_simp; try with_reducible rfl
  simp only [Act.put, sbA, sbB, sbC]
  refine held_tk 11 ?_ (fun wq hSq => ?_) hHeld1 ?_
  rotate_left
  ·(try dsimp only at hSq); go_simp; try with_reducible rfl
  simp only [Act.put, sbA, sbB, sbC]
  refine held_tk 12 ?_ (fun wq hSq => ?_) hHeld1 ?_
  rotate_left
  ·(try dsimp only at hSq); go_simp; try with_reducible rfl
  simp only [Act.put, sbA, sbB, sbC]
  refine wpAnyH_done (by kernel_rfl) ?_ _
  clear hHeld1
  go_wp2_with fail
  go_ret2
  exact ⟨⟨_, rfl⟩, by rw [← HFN.out]; exact HF3.out, HB3.out⟩
open Go.RowKit
theorem FB.string {w : World} {B : Nat} {v : Value} {l : List UInt8} (h : FB w B v l) : (convert 22 9 v).run Tryz.prog w = .ok (.string ⟨l.toArray⟩) w := by
 rcases h.2 with ⟨hv, h0⟩ | ⟨g, cap, cur, fz, hv, hbg, hg, rest⟩
 ·obtain rfl := List.length_eq_zero_iff.1 h0
  rw [hv]
  exact run_convert_bytes_nil w 22 5 Tryz.underlying22 Tryz.underlying5 0 0 9 Tryz.underlying9
 have hob : v.ownBlock = some g := by rw [hv]; rfl
 rw [hv]
 refine run_convert_bytes_back w 22 9 5 ⟨g, 0, none⟩ cap l Tryz.underlying22 Tryz.underlying5 Tryz.underlying9 (fun j hj => ?_)
 have hc := World.ownsRowF.cells h hob j (.int .u8 (((l.getD j 0).toNat : Nat) : Int)) (u8s_at l j hj)
 have e : l.getD j 0 = l[j] := by simp [hj]
 rw [e] at hc
 exact hc
open Go.RowKit
theorem wpList_make_W {w : World} {ops : Array Oper} {rest : List Oper} {o : Oper} {a : Act} {Q : Exit → Act → World → Prop}
  (hg : o.guard = none) (l c : Operand) (hop : o.op = Op.makeSlice 301 l c)
  (C : Int) (n : Nat) (hl : a.eval l = .int .i64 0) (hc : a.eval c = .int .i64 C) (hC : C = (n : Int)) (b2 : n ≤ 1000000000000)
  (hK : ∀ w', FB w' w.heap.size (.slice (some ⟨w.heap.size, 0, none⟩) 0 n) [] → Below w.heap.size w w' → wpList Tryz.prog ops Q rest (a.put o.dst (.slice (some ⟨w.heap.size, 0, none⟩) 0 n)) w') :
  wpList Tryz.prog ops Q (o :: rest) a w := by
 obtain ⟨i0, hi, hz0, hz1, hz2⟩ := info_parts Tryz.info5
 refine wpList_make_own w hg l c 301 hop w.heap.size 5 i0 (.int .u8 0) 1 Tryz.underlying301 hi hz0 hz1 .i64 .i64 C n hl hc hC (by rw [hz2]; omega) (by unfold maxLen; omega) (Nat.le_refl _) ?_
 intro w' h1 h2
 exact hK w' (World.ownsRowF_of h1) ((Below.refl _ _).grown h2 (Nat.le_refl _) (fun k hk => by cases hk))
theorem FB.stringW {w : World} {B : Nat} {v : Value} {l : List UInt8} (h : FB w B v l) : (convert 301 9 v).run Tryz.prog w = .ok (.string ⟨l.toArray⟩) w := by
 rcases h.2 with ⟨hv, h0⟩ | ⟨g, cap, cur, fz, hv, hbg, hg, rest⟩
 ·obtain rfl := List.length_eq_zero_iff.1 h0
  rw [hv]
  exact run_convert_bytes_nil w 301 5 Tryz.underlying301 Tryz.underlying5 0 0 9 Tryz.underlying9
 have hob : v.ownBlock = some g := by rw [hv]; rfl
 rw [hv]
 refine run_convert_bytes_back w 301 9 5 ⟨g, 0, none⟩ cap l Tryz.underlying301 Tryz.underlying5 Tryz.underlying9 (fun j hj => ?_)
 have hc := World.ownsRowF.cells h hob j (.int .u8 (((l.getD j 0).toNat : Nat) : Int)) (u8s_at l j hj)
 have e : l.getD j 0 = l[j] := by simp [hj]
 rw [e] at hc
 exact hc
theorem heap_alloc9 (w : World) (o : Obj) : (w.alloc o).heap[w.heap.size]? = some o := by show (w.heap.push o)[w.heap.size]? = some o; simp
theorem TrieAt.lt {w : World} {lo gr : Nat} {a b : List UInt8} {gt gA gu gB gC : Nat} (h : TrieAt w lo gr a b gt gA gu gB gC) : TrieLt w.heap.size gr gt gA gu gB gC := by
 refine ⟨h.g.lt, ?_, ?_, ?_, ?_, ?_⟩
 all_goals first | exact h.t.lt | exact h.nA.lt | exact h.u.lt | exact h.nB.lt | exact h.nC.lt
set_option maxHeartbeats 4000000 in
theorem grR_calls (w : World) {lo gr : Nat} {a b : List UInt8} {gt gA gu gB gC : Nat} (h : TrieAt w lo gr a b gt gA gu gB gC) (hab : a.length ≤ 4 ∧ b.length ≤ 4) (s : List UInt8) (hsl : s.length ≤ 100000000) :
  Calls Tryz.prog 270 #[.pointer (some ⟨gr, 0, none⟩), .string ⟨s.toArray⟩] w fun e w' => e = .returned (.string ⟨(replS a b s).toArray⟩) ∧ Below w.heap.size w w' := by
 have HT := Lib.hid h
 have HLT := Lib.hid h.lt
 have HAB := Lib.hid hab
 clear h hab
 go_enter Tryz.func270, Tryz.ntmps270
 go_wp2_with (at_make; go_must (refine wpList_make_W rfl _ _ rfl _ s.length rfl rfl rfl ?_ ?_))
 ·omega
 intro w1 hf1 hb1
 have HF := Lib.hid hf1
 have HB := Lib.hid hb1
 clear hf1 hb1
 go_wp2_with fail
 refine (gws_calls _ (HT.out.under HLT.out (HB.out.alloc HB.out.size _)) HLT.out ⟨⟨_, ?hh, HF.out.alloc _⟩, HB.out.size⟩ HAB.out s hsl).mono ?_
 case hh => exact heap_alloc9 _ _
 rintro e w2 ⟨⟨v2, rfl⟩, hbf, hb2⟩
 obtain ⟨v3, hv3, hf3⟩ := hbf.ex
 have c3 : w2.cell? ⟨w1.heap.size, 0, none⟩ = some v3 := by rw [Joins.cell_of_block hv3]; rfl
 have hcv := hf3.stringW
 have HBX := Lib.hid ((HB.out.alloc HB.out.size _).trans hb2)
 clear hbf hv3 hf3 hb2
 go_wp2_with fail
 go_ret
 exact ⟨rfl, HBX.out⟩
open Go.RowKit
theorem Apart.putR {S : Nat → Prop} {w w' : World} (h : Apart S w w') {a : Addr} (ha : S a.block) (v : Value) : Apart S w (w'.setCell a v) := h.trans (Apart.set (S := S) w' ha v) (fun _ _ h => h)
theorem TrieAt.base {w : World} {lo lo' gr : Nat} {a b : List UInt8} {gt gA gu gB gC : Nat} (h : TrieAt w lo gr a b gt gA gu gB gC) (hl : lo' ≤ lo) : TrieAt w lo' gr a b gt gA gu gB gC :=
 ⟨h.g, h.t, h.nA, h.u, h.nB, h.nC, by have := h.lo; omega, h.ne⟩
structure Rp (w : World) (lo g : Nat) (a b : List UInt8) : Prop where
 hlo : lo ≤ g
 at_ : (∃ v, RowAt w g [.int .u32 0, .int .i32 0, .int .u32 0, .nilIface, v] ∧ NamV w lo v (keysL a b) ∧ v.ownBlock ≠ some g) ∨
  (∃ gr gt gA gu gB gC, RowAt w g [.int .u32 1, .int .i32 0, .int .u32 0, .iface 196 (.pointer (some ⟨gr, 0, none⟩)), .slice none 0 0] ∧ TrieAt w lo gr a b gt gA gu gB gC)
theorem Rp.below {w w' : World} {lo g : Nat} {a b : List UInt8} (h : Rp w lo g a b) (hb : Below w.heap.size w w') : Rp w' lo g a b := by
 refine ⟨h.hlo, ?_⟩
 rcases h.at_ with ⟨v, h1, h2, h3⟩ | ⟨gr, gt, gA, gu, gB, gC, h1, h2⟩
 ·exact .inl ⟨v, h1.below hb, h2.below hb, h3⟩
 exact .inr ⟨gr, gt, gA, gu, gB, gC, h1.below hb, h2.below hb⟩
theorem Rp.lt {w : World} {lo g : Nat} {a b : List UInt8} (h : Rp w lo g a b) : g < w.heap.size := by
 rcases h.at_ with ⟨_, h1, _⟩ | ⟨_, _, _, _, _, _, h1, _⟩ <;> exact h1.lt
set_option maxHeartbeats 4000000 in
theorem build_calls (w : World) {g : Nat} {v x0 x1 x2 x3 : Value} {S : Nat → Prop} (a b : List UInt8) (hr : RowAt w g [x0, x1, x2, x3, v]) (hN : NamS w S v (keysL a b)) :
  Calls Tryz.prog 133 #[.pointer (some ⟨g, 0, none⟩)] w fun e w' => ∃ gr gt gA gu gB gC, e = .returned (.iface 196 (.pointer (some ⟨gr, 0, none⟩))) ∧ TrieAt w' w.heap.size gr a b gt gA gu gB gC ∧ Below w.heap.size w w' := by
 have HN := Lib.hid hN
 obtain ⟨p0, cap0, rfl, _, _, hcell⟩ := hN
 obtain ⟨gn, fn, rfl, _, hgn, hcs⟩ := hcell (by simp [keysL])
 have k4 : w.cell? ⟨g, 4, none⟩ = _ := hr.cell 4 _ rfl
 have kc : w.cell? ⟨gn, fn, none⟩ = some (Value.string ⟨#[126, 48]⟩) := hcs 0 [126, 48] rfl
 rw [show (keysL a b).length = 4 from rfl] at HN k4
 clear hcell hcs hgn hr
 go_enter Tryz.func133, Tryz.ntmps133
 go_wp2_with fail
 refine wp_loop_rounds 1 ?_
 rw [rounds_succ]
 go_wp2_with fail
 refine (mgr_calls w a b HN.out).mono ?_
 rintro e w1 ⟨gr, gt, gA, gu, gB, gC, rfl, ht, hb⟩
 have HT := Lib.hid ht
 have HB := Lib.hid hb
 clear ht hb kc k4
 go_wp2_with fail
 go_ret
 exact ⟨gr, gt, gA, gu, gB, gC, rfl, HT.out, HB.out⟩
def BuiltR (w : World) (g : Nat) (a b : List UInt8) (w' : World) : Prop := ∃ gr gt gA gu gB gC, RowAt w' g [.int .u32 0, .int .i32 1, .int .u32 0, .iface 196 (.pointer (some ⟨gr, 0, none⟩)), .slice none 0 0] ∧ TrieAt w' w.heap.size gr a b gt gA gu gB gC ∧ Apart (fun k => k = g) w w'
set_option maxHeartbeats 4000000 in
theorem bo_calls (w : World) {g : Nat} {v : Value} {S : Nat → Prop} (a b : List UInt8) (hr : RowAt w g [.int .u32 0, .int .i32 1, .int .u32 0, .nilIface, v]) (hN : NamS w S v (keysL a b)) :
  Calls Tryz.prog 94 #[.pointer (some ⟨g, 0, none⟩)] w fun e w' => e = .returned (.tuple #[]) ∧ BuiltR w g a b w' := by
 have HR := Lib.hid hr
 have HN := Lib.hid hN
 have HLT := Lib.hid hr.lt
 clear hr hN
 go_enter Tryz.func94, Tryz.ntmps94
 go_wp2_with fail
 refine (build_calls w a b HR.out HN.out).mono ?_
 rintro e w1 ⟨gr, gt, gA, gu, gB, gC, rfl, ht, hb⟩
 have hr1 := HR.out.below hb
 have k3 := hr1.cell 3 _ rfl
 have k4 := hr1.cell 4 _ rfl
 have z3 := hr1.free 3
 have z4 := hr1.free 4
 have HR1 := Lib.hid hr1
 have HT := Lib.hid ht
 have HB := Lib.hid hb
 clear hr1 ht hb
 go_wp2_with fail
 go_end0
 have h1 := HR1.out.set 3 (.iface 196 (.pointer (some ⟨gr, 0, none⟩))) (by simp)
 have h2 := h1.set 4 (.slice none 0 0) (by simp)
 have ha : Apart (fun k => k = g) w w1 := .ofBelow HB.out
 have ha1 := (ha.putR (a := ⟨g, 3, none⟩) rfl (.iface 196 (.pointer (some ⟨gr, 0, none⟩)))).putR (a := ⟨g, 4, none⟩) rfl (.slice none 0 0)
 have hs := (Apart.set (S := fun k => k = g) w1 (a := ⟨g, 3, none⟩) rfl (.iface 196 (.pointer (some ⟨gr, 0, none⟩)))).putR (a := ⟨g, 4, none⟩) rfl (.slice none 0 0)
 exact ⟨rfl, gr, gt, gA, gu, gB, gC, h2, HT.out.apart hs (fun k hk e => by have := HLT.out; omega), ha1⟩
set_option maxHeartbeats 4000000 in
theorem rep_calls (w : World) {lo g : Nat} {a b : List UInt8} (h : Rp w lo g a b) (hab : a.length ≤ 4 ∧ b.length ≤ 4) (s : List UInt8) (hsl : s.length ≤ 100000000) :
  Calls Tryz.prog 56 #[.pointer (some ⟨g, 0, none⟩), .string ⟨s.toArray⟩] w fun e w' => e = .returned (.string ⟨(replS a b s).toArray⟩) ∧ Rp w' lo g a b ∧ Apart (fun k => k = g) w w' := by
 have HLO := Lib.hid h.hlo
 have HAB := Lib.hid hab
 have HLT := Lib.hid h.lt
 rcases h.at_ with ⟨v, h1, h2, h3⟩ | ⟨gr, gt, gA, gu, gB, gC, h1, h2⟩
 ·have H1 := Lib.hid h1
  have H2 := Lib.hid h2
  have H3 := Lib.hid h3
  have HLS : Hid (lo ≤ w.heap.size) := Lib.hid (by have := h.hlo; have := h.lt; omega)
  clear h h1 h2 h3 hab
  go_enter Tryz.func56, Tryz.ntmps56
  go_wp2_with fail
  refine (do_first g (fun w' => BuiltR (w.setCell ⟨g, 1, none⟩ (.int .i32 1)) g a b w') w (H1.out.cell 0 _ rfl) (H1.out.cell 1 _ rfl) (H1.out.free 1) ((bo_calls _ (S := fun k => lo ≤ k) a b (H1.out.set 1 (.int .i32 1) (by simp)) ?hn).mono ?hm)).mono ?_
  case hn => exact NamV.s (B := lo) (ownsRow_apart H2.out (Apart.set (S := fun k => k = g) w (a := ⟨g, 1, none⟩) rfl (.int .i32 1)) (fun k hk e => H3.out (by rw [hk, e])))
  case hm =>
   rintro e w2 ⟨rfl, hb⟩
   have hb0 := hb
   obtain ⟨gr, gt, gA, gu, gB, gC, k1, k2, k3⟩ := hb0
   exact ⟨rfl, hb, k1.cell 0 _ rfl, k1.cell 1 _ rfl, k1.free 0, k1.free 1⟩
  rintro e w3 ⟨rfl, w2, ⟨gr, gt, gA, gu, gB, gC, k1, k2, k3⟩, rfl⟩
  have r1 := (k1.drew.set 0 (.int .u32 1) (by simp)).set 1 (.int .i32 0) (by simp)
  have hap := ((Apart.ofBelow (S := fun k => k = g) (Below.refl w2.heap.size w2).drew).putR (a := ⟨g, 0, none⟩) rfl (.int .u32 1)).putR (a := ⟨g, 1, none⟩) rfl (.int .i32 0)
  have k2b := k2.apart hap (fun k hk e => by have := HLT.out; rw [World.size_setCell] at hk; omega)
  have HAP := Lib.hid (((Apart.set (S := fun k => k = g) w (a := ⟨g, 1, none⟩) rfl (.int .i32 1)).trans k3 (fun _ _ h => h)).trans hap (fun _ _ h => h))
  have k3 := r1.cell 3 _ rfl
  have HRW := Lib.hid r1
  have HTR := Lib.hid (k2b.base (lo' := lo) (by rw [World.size_setCell]; exact HLS.out))
  clear k1 k2 r1 hap k2b
  generalize (w2.drew.setCell ⟨g, 0, none⟩ (.int .u32 1)).setCell ⟨g, 1, none⟩ (.int .i32 0) = wn at *
  go_wp2_with fail
  refine (grR_calls wn HTR.out HAB.out s hsl).mono ?_
  rintro e w4 ⟨rfl, hb4⟩
  have HB4 := Lib.hid hb4
  clear hb4
  go_wp2_with fail
  go_ret
  exact ⟨rfl, ⟨HLO.out, .inr ⟨gr, gt, gA, gu, gB, gC, HRW.out.below HB4.out, HTR.out.below HB4.out⟩⟩, HAP.out.trans (.ofBelow (S := fun k => k = g) HB4.out) (fun _ _ h => h)⟩
 ·have H1 := Lib.hid h1
  have H2 := Lib.hid h2
  have c3 : w.cell? ⟨g, 3, none⟩ = _ := h1.cell 3 _ rfl
  clear h h1 h2 hab
  go_enter Tryz.func56, Tryz.ntmps56
  go_wp2_with fail
  refine (do_done g _ w (H1.out.cell 0 _ rfl)).mono ?_
  rintro e w3 ⟨rfl, rfl⟩
  go_wp2_with fail
  refine (grR_calls _ H2.out HAB.out s hsl).mono ?_
  rintro e w4 ⟨rfl, hb4⟩
  have HB4 := Lib.hid hb4
  clear hb4
  go_wp2_with fail
  go_ret
  exact ⟨rfl, ⟨HLO.out, .inr ⟨gr, gt, gA, gu, gB, gC, H1.out.below HB4.out, H2.out.below HB4.out⟩⟩, .ofBelow HB4.out⟩
set_option maxHeartbeats 4000000 in
theorem nr_calls (w : World) {v : Value} {S : Nat → Prop} (a b : List UInt8) (hN : NamS w S v (keysL a b)) :
  Calls Tryz.prog 54 #[v] w fun e w' => ∃ g, e = .returned (.pointer (some ⟨g, 0, none⟩)) ∧ Rp w' w.heap.size g a b ∧ Below w.heap.size w w' := by
 obtain ⟨p0, cap0, rfl, _, _, hcell⟩ := hN
 obtain ⟨gn, fn, rfl, _, hgn, hcs⟩ := hcell (by simp [keysL])
 rw [show (keysL a b).length = 4 from rfl]
 clear hcell
 obtain ⟨i0, hi, hz0, hz1, hz2⟩ := info_parts Tryz.info9
 have hc : ∀ (j : Nat) u, (txts (keysL a b))[j]? = some u → w.cell? ((⟨gn, fn, none⟩ : Addr).add j) = some u := by
  intro j u hj
  rw [addr_off rfl]
  unfold txts at hj
  rw [List.getElem?_map] at hj
  cases h : (keysL a b)[j]? with
  | none => rw [h] at hj; cases hj
  | some x => rw [h] at hj; cases hj; exact hcs j x h
 have ho : ∀ u ∈ txts (keysL a b), u.oneCell' = true := by
  intro u hu
  simp [txts, keysL] at hu
  rcases hu with h | h | h | h <;> rw [h] <;> rfl
 have HI := Lib.hid hi
 have HZ := Lib.hid (show _ ∧ _ ∧ _ from ⟨hz0, hz1, hz2⟩)
 have HC := Lib.hid hc
 have HO := Lib.hid ho
 clear hgn hcs hi hz0 hz1 hz2 hc ho
 go_enter Tryz.func54, Tryz.ntmps54
 go_wp2_with (at_builtin; go_must (refine wpList_append_own _ rfl _ _ 28 rfl w.heap.size 9 i0 _ 1 16 Tryz.underlying28 HI.out HZ.out.1 HZ.out.2.1 HZ.out.2.2 rfl (by decide) _ 0 [] rfl (World.ownsRow_nil _ _ _ _) ⟨gn, fn, none⟩ 4 cap0 (txts (keysL a b)) rfl rfl HC.out HO.out (by unfold maxLen; omega) (by omega) (Nat.le_refl _) ?_))
 intro v1 w1 h1 h2 _
 have HN1 : Hid (NamV w1 w.heap.size v1 (keysL a b)) := Lib.hid h1
 have HB : Hid (Below w.heap.size w w1) := Lib.hid ((Below.refl _ _).grown h2 (Nat.le_refl _) (fun k hk => by cases hk))
 clear h1 h2 HI HZ HC HO
 obtain ⟨p1, c1, rfl⟩ := HN1.out.forms
 go_wp2_with fail
 go_ret
 refine ⟨_, rfl, ⟨HB.out.size, .inl ⟨.slice p1 4 c1, RowAt.new w1 #[.int .u32 0, .int .i32 0, .int .u32 0, .nilIface, .slice p1 4 c1] _, World.ownsRow.alloc HN1.out _, fun e => ?_⟩⟩, HB.out.alloc HB.out.size _⟩
 exact Nat.lt_irrefl _ (World.ownsRow.lt HN1.out _ e).2
end Go.Proofs.YtfclfaidmipjpaaGreatDoor
