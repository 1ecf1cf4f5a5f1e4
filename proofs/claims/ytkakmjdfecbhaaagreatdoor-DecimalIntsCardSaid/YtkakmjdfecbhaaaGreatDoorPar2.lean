/- The walk of decimal.Parse: what it answers, at every text of up to 10^9 bytes, over any world. -/
import Derived.Test.YtkakmjdfecbhaaaGreatDoorPar1
import Derived.Deep.DeepCutAuto
import Derived.WalkMore
import Derived.ScopeJumps
namespace Go.Proofs.YtkakmjdfecbhaaaGreatDoor
open Go.RowKit

/-- Block b holds a decimal that is 0, and may be written. -/
structure ResAt (w : World) (b : Nat) : Prop where
  c0 : w.cell? ⟨b, 0, none⟩ = some (.bool false)
  c1 : w.cell? ⟨b, 1, none⟩ = some (.string ⟨#[]⟩)
  c2 : w.cell? ⟨b, 2, none⟩ = some (.int .i64 0)
  f0 : w.frozen? ⟨b, 0, none⟩ = false
  f1 : w.frozen? ⟨b, 1, none⟩ = false
  f2 : w.frozen? ⟨b, 2, none⟩ = false
  lt : b < w.heap.size
theorem ResAt.of_block {w w' : World} {b : Nat} (h : ResAt w b) (hb : w'.heap[b]? = w.heap[b]?) (hs : w.heap.size ≤ w'.heap.size) : ResAt w' b :=
  ⟨(World.cell?_of_block (w := w) hb).trans h.c0, (World.cell?_of_block (w := w) hb).trans h.c1, (World.cell?_of_block (w := w) hb).trans h.c2,
    (World.frozen?_of_block (w := w) hb).trans h.f0, (World.frozen?_of_block (w := w) hb).trans h.f1, (World.frozen?_of_block (w := w) hb).trans h.f2, Nat.lt_of_lt_of_le h.lt hs⟩
/-- What Parse holds in memory: the text left, the result, nothing turned below. -/
structure Pst (w w' : World) (r : List UInt8) : Prop where
  cut : CutAt w' (w.heap.size + 1) r
  res : ResAt w' w.heap.size
  bel : Below w.heap.size w w'
theorem Pst.step {w w1 w2 : World} {r r' : List UInt8} (h : Pst w w1 r) (hc : CutAt w2 (w.heap.size + 1) r') (hg : w1.grownBy w2 (some (w.heap.size + 1))) : Pst w w2 r' :=
  ⟨hc, h.res.of_block (hg.block _ h.res.lt (by simp)) hg.size, h.bel.grown hg h.bel.size (fun k hk => by cases hk; omega)⟩
theorem Pst.under {w w1 w2 : World} {r : List UInt8} (h : Pst w w1 r) (hb : Below w1.heap.size w1 w2) : Pst w w2 r :=
  ⟨⟨(hb.cell (p := ⟨w.heap.size + 1, 0, none⟩) h.cut.2.2).trans h.cut.1, (hb.frozen (p := ⟨w.heap.size + 1, 0, none⟩) h.cut.2.2).trans h.cut.2.1, Nat.lt_of_lt_of_le h.cut.2.2 hb.size⟩,
    h.res.of_block (hb.block _ h.res.lt) hb.size, h.bel.trans (hb.mono h.bel.size)⟩

theorem cat (a b : List UInt8) : (⟨a.toArray⟩ ++ ⟨b.toArray⟩ : ByteArray) = ⟨(a ++ b).toArray⟩ := by
  apply ByteArray.ext; simp [ByteArray.data_append]
theorem u8_beq (c : UInt8) (n : Nat) (h : n < 256) : ((c.toNat : Int) == (n : Int)) = (c == UInt8.ofNat n) := by
  rw [Bool.eq_iff_iff]
  simp only [beq_iff_eq, ← UInt8.toNat_inj, UInt8.toNat_ofNat']
  omega

/-- What holds where the text is found wrong. -/
def ParseJ (w : World) (l : List UInt8) (a' : Act) (w' : World) : Prop := ∃ (x0 x1 x3 x4 x5 x6 x7 x8 x9 x10 x11 x12 x13 x14 x15 x16 x17 x18 x19 x20 x21 x22 x23 x24 x25 x26 x27 x28 x29 x30 x31 x32 x33 x34 x35 x36 x37 x38 x39 x40 x41 x42 x43 x44 x45 x46 x47 x48 x49 x50 x51 x52 x53 x54 x55 x56 x57 x58 x59 x60 x61 x62 x63 x64 x65 x66 x67 x68 x69 x70 x71 x72 x73 x74 x75 x76 x77 x78 x79 x80 : Value), a' = { tmps := #[x0, x1, .pointer (some ⟨w.heap.size, 0, none⟩), x3, x4, x5, x6, x7, x8, x9, x10, x11, x12, x13, x14, x15, x16, x17, x18, x19, x20, x21, x22, x23, x24, x25, x26, x27, x28, x29, x30, x31, x32, x33, x34, x35, x36, x37, x38, x39, x40, x41, x42, x43, x44, x45, x46, x47, x48, x49, x50, x51, x52, x53, x54, x55, x56, x57, x58, x59, x60, x61, x62, x63, x64, x65, x66, x67, x68, x69, x70, x71, x72, x73, x74, x75, x76, x77, x78, x79, x80], defers := [] } ∧ ResAt w' w.heap.size ∧ Below w.heap.size w w' ∧ parseS l = (Dec.zero, 170)
theorem ParseJ.mk {w w' : World} {l : List UInt8} {x0 x1 x3 x4 x5 x6 x7 x8 x9 x10 x11 x12 x13 x14 x15 x16 x17 x18 x19 x20 x21 x22 x23 x24 x25 x26 x27 x28 x29 x30 x31 x32 x33 x34 x35 x36 x37 x38 x39 x40 x41 x42 x43 x44 x45 x46 x47 x48 x49 x50 x51 x52 x53 x54 x55 x56 x57 x58 x59 x60 x61 x62 x63 x64 x65 x66 x67 x68 x69 x70 x71 x72 x73 x74 x75 x76 x77 x78 x79 x80 : Value} (h : ResAt w' w.heap.size ∧ Below w.heap.size w w' ∧ parseS l = (Dec.zero, 170)) : ParseJ w l { tmps := #[x0, x1, .pointer (some ⟨w.heap.size, 0, none⟩), x3, x4, x5, x6, x7, x8, x9, x10, x11, x12, x13, x14, x15, x16, x17, x18, x19, x20, x21, x22, x23, x24, x25, x26, x27, x28, x29, x30, x31, x32, x33, x34, x35, x36, x37, x38, x39, x40, x41, x42, x43, x44, x45, x46, x47, x48, x49, x50, x51, x52, x53, x54, x55, x56, x57, x58, x59, x60, x61, x62, x63, x64, x65, x66, x67, x68, x69, x70, x71, x72, x73, x74, x75, x76, x77, x78, x79, x80], defers := [] } w' := ⟨_, _, _, _, _, _, _, _, _, _, _, _, _, _, _, _, _, _, _, _, _, _, _, _, _, _, _, _, _, _, _, _, _, _, _, _, _, _, _, _, _, _, _, _, _, _, _, _, _, _, _, _, _, _, _, _, _, _, _, _, _, _, _, _, _, _, _, _, _, _, _, _, _, _, _, _, _, _, _, _, rfl, h⟩

theorem u8_ne (c : UInt8) (n : Nat) (h : n < 256) (hne : c ≠ UInt8.ofNat n) : ((c.toNat : Int) == (n : Int)) = false := by
  rw [u8_beq c n h, beq_eq_false_iff_ne]; exact hne
set_option maxHeartbeats 4000000 in
set_option maxRecDepth 100000 in
theorem parse_long (w : World) (l : List UInt8) (hl : l.length ≤ 1000000000) (h : 1000 < l.length) :
    Calls Tryz.prog 26 #[.string ⟨l.toArray⟩] w fun e w' => e = .returned (.tuple #[DecV (parseS l).1, .int .i64 (parseS l).2]) ∧ Below w.heap.size w w' := by
  have hp : parseS l = (Dec.zero, 3) := by simp [parseS, h]
  rw [hp]
  have h' : (1000 : Int) < l.length := by omega
  clear hp
  go_enter Tryz.func26, Tryz.ntmps26
  go_wp2
  go_step3
  go_wp2
  rw [Exit.noGoto_ret]
  refine bodyPost_ret (v := .tuple #[.agg #[.bool false, .string ⟨#[]⟩, .int .i64 0], .int .i64 3]) (by simp [results, Tryz.results26, go_sem]) rfl ?_
  exact ⟨rfl, by go_grown⟩

set_option maxHeartbeats 8000000 in
set_option maxRecDepth 100000 in
theorem parse_short (w : World) (l : List UInt8) (hl : l.length ≤ 1000) :
    Calls Tryz.prog 26 #[.string ⟨l.toArray⟩] w fun e w' => e = .returned (.tuple #[DecV (parseS l).1, .int .i64 (parseS l).2]) ∧ Below w.heap.size w w' := by
  have hp : parseS l = parseA ((oneS [45] l).1 == 45) (oneS [45] l).2 := by simp [parseS]; intro h; omega
  have h1 := one_len [45] l
  have Hp := Lib.hid hp
  clear hp
  go_enter Tryz.func26, Tryz.ntmps26
  go_wp2
  refine wp_scope_jumps 0 (ParseJ w l) (fun _ _ => 0) rfl ?_ ?_
  · go_wp2_with fail
    have hpst : Pst w ((w.alloc (Obj.cells #[Value.bool false, Value.string { data := #[] }, Value.int IntKind.i64 0] 24)).alloc (Obj.cells #[Value.string { data := l.toArray }] 84)) l := by
      refine ⟨⟨?_, ?_, by simp⟩, ⟨?_, ?_, ?_, ?_, ?_, ?_, by simp; omega⟩, ((Below.refl _ _).alloc (Nat.le_refl _) _).alloc (by simp) _⟩
      · rw [World.cell?_alloc_at _ _ _ _ (by simp)]; rfl
      · exact World.frozen?_alloc_at _ _ _ _ (by simp)
      · rw [World.cell?_alloc_past _ _ _ (by simp), World.cell?_alloc_at _ _ _ _ rfl]; rfl
      · rw [World.cell?_alloc_past _ _ _ (by simp), World.cell?_alloc_at _ _ _ _ rfl]; rfl
      · rw [World.cell?_alloc_past _ _ _ (by simp), World.cell?_alloc_at _ _ _ _ rfl]; rfl
      · rw [World.frozen?_alloc_past _ _ _ (by simp)]; exact World.frozen?_alloc_at _ _ _ _ rfl
      · rw [World.frozen?_alloc_past _ _ _ (by simp)]; exact World.frozen?_alloc_at _ _ _ _ rfl
      · rw [World.frozen?_alloc_past _ _ _ (by simp)]; exact World.frozen?_alloc_at _ _ _ _ rfl
    generalize (w.alloc (Obj.cells #[Value.bool false, Value.string { data := #[] }, Value.int IntKind.i64 0] 24)).alloc (Obj.cells #[Value.string { data := l.toArray }] 84) = w1 at *
    refine (one_calls w1 _ [45] l hpst.cut (by omega)).mono ?_
    rintro e w2 ⟨rfl, hc, hg⟩
    have hp2 := hpst.step hc hg
    clear hpst hc hg
    have hneg := u8_beq (oneS [45] l).1 45 (by omega)
    generalize (oneS [45] l).2 = r0 at *
    obtain ⟨neg, hng⟩ : ∃ neg, neg = ((oneS [45] l).1 == 45) := ⟨_, rfl⟩
    have hneg2 : (((oneS [45] l).1.toNat : Int) == 45) = neg := by rw [hng]; exact hneg
    rw [← hng] at Hp
    clear hneg hng
    generalize (oneS [45] l).1 = c0 at *
    go_wp2_with fail
    refine (cutDigits_calls w2 _ r0 hp2.cut (by omega)).mono ?_
    rintro e w3 ⟨rfl, hc, hg⟩
    have hp3 := hp2.step hc hg
    clear hp2 hc hg
    have hdl := digs_len r0
    have hdg := Dig_digs r0
    have hpa : parseA neg r0 = if digsS r0 = [] ∨ ((digsS r0).getD 0 0 = 48 ∧ 1 < (digsS r0).length) then (Dec.zero, 170) else parseP neg (digsS r0) (restS r0) := rfl
    generalize digsS r0 = all at *
    generalize restS r0 = r1 at *
    rw [hpa] at Hp
    clear hpa
    have hl1 : all.length + r1.length ≤ 1000 := by omega
    clear hdl
    have Hdg := Lib.hid hdg
    clear hdg h1
    cases all with
    | nil =>
      have HP : ResAt w3 w.heap.size ∧ Below w.heap.size w w3 ∧ parseS l = (Dec.zero, 170) := ⟨hp3.res, hp3.bel, by rw [Hp.out]; simp⟩
      go_wp2_with fail
      go_step3
      exact ⟨rfl, ParseJ.mk HP⟩
    | cons d t =>
      have hi0 : (⟨(d :: t).toArray⟩ : ByteArray)[0]'(by simp [ByteArray.size]) = d := rfl
      by_cases hbad : d = 48 ∧ 1 < (d :: t).length
      · have HP : ResAt w3 w.heap.size ∧ Below w.heap.size w w3 ∧ parseS l = (Dec.zero, 170) := ⟨hp3.res, hp3.bel, by rw [Hp.out]; simp at hbad; simp [hbad]⟩
        obtain ⟨hd48, hl2⟩ := hbad
        subst hd48
        simp only [List.length_cons] at hl2
        go_wp2_with fail
        go_step3
        exact ⟨rfl, ParseJ.mk HP⟩
      · have hp4 : parseS l = parseP neg (d :: t) r1 := by rw [Hp.out, if_neg]; simpa using hbad
        have Hp4 := Lib.hid hp4
        have Hbad := Lib.hid hbad
        clear hp4 hbad Hp
        go_upto_region 7 with fail
        go_cut [35] (fun s wc => s = .bool false ∧ wc = w3)
        case first =>
          by_cases hd48 : d = 48
          · have ht : t = [] := by
              have := Hbad.out
              cases t with
              | nil => rfl
              | cons a b => exact absurd ⟨hd48, by simp⟩ this
            subst hd48; subst ht
            go_wp2_with fail
            go_meet
            exact ⟨rfl, rfl⟩
          · have hd48' : ((d.toNat : Int) == 48) = false := u8_ne d 48 (by omega) hd48
            clear hd48
            go_wp2_with fail
            go_meet
            exact ⟨rfl, rfl⟩
        case rest =>
          obtain ⟨rfl, rfl⟩ := hcut
          clear hi0
          generalize (d :: t) = all at *
          go_wp2_with fail
          refine (one_calls _ _ [46] r1 hp3.cut (by omega)).mono ?_
          rintro e w4 ⟨rfl, hc, hg⟩
          have hp4 := hp3.step hc hg
          clear hp3 hc hg
          have hl2 := one_len [46] r1
          have hpp : parseP neg all r1 = if (oneS [46] r1).1 = 46 then
              if digsS (oneS [46] r1).2 = [] then (Dec.zero, 170) else parseE neg (all ++ digsS (oneS [46] r1).2) (-((digsS (oneS [46] r1).2).length : Int)) (restS (oneS [46] r1).2)
              else parseE neg all 0 (oneS [46] r1).2 := rfl
          generalize (oneS [46] r1).2 = r2 at *
          generalize (oneS [46] r1).1 = c1 at *
          rw [hpp] at Hp4
          clear hpp
          go_upto_if 38 with fail
          go_cut [6, 7] (fun s6 s7 wc => ∃ (a' : List UInt8) (exp : Int) (r3 : List UInt8), s6 = .string ⟨a'.toArray⟩ ∧ s7 = .int .i64 exp ∧ Pst w wc r3 ∧ parseS l = parseE neg a' exp r3 ∧ a'.length ≤ 2000 ∧ r3.length ≤ 1000 ∧ -2000 ≤ exp ∧ exp ≤ 0)
          case first =>
            by_cases h46 : c1 = 46
            · subst h46
              rw [if_pos rfl] at Hp4
              have hdl := digs_len r2
              go_wp2_with fail
              refine (cutDigits_calls _ _ r2 hp4.cut (by omega)).mono ?_
              rintro e w5 ⟨rfl, hc, hg⟩
              have hp5 := hp4.step hc hg
              clear hp4 hc hg
              generalize digsS r2 = part at *
              generalize restS r2 = r3 at *
              cases part with
              | nil =>
                have HP : ResAt w5 w.heap.size ∧ Below w.heap.size w w5 ∧ parseS l = (Dec.zero, 170) := ⟨hp5.res, hp5.bel, by rw [Hp4.out]; simp⟩
                go_wp2_with fail
                go_step3
                exact ⟨rfl, ParseJ.mk HP⟩
              | cons d' t' =>
                have hp6 : parseS l = parseE neg (all ++ d' :: t') (-((t'.length : Int) + 1)) r3 := by rw [Hp4.out, if_neg (by simp)]; simp
                have Hp6 := Lib.hid hp6
                clear hp6
                simp only [List.length_cons] at hdl
                go_wp2_with fail
                go_meet
                exact ⟨all ++ d' :: t', _, r3, by rw [cat], rfl, hp5, Hp6.out, by simp; omega, by omega, by omega, by omega⟩
            · have h46' : ((c1.toNat : Int) == 46) = false := u8_ne c1 46 (by omega) h46
              rw [if_neg h46] at Hp4
              clear h46
              go_wp2_with fail
              go_meet
              exact ⟨all, 0, r2, rfl, rfl, hp4, Hp4.out, by omega, by omega, by omega, by omega⟩
          case rest =>
            obtain ⟨a', exp, r3, rfl, rfl, hp5, hp6, hl5, hl6, he1, he2⟩ := hcut
            have Hp6 := Lib.hid hp6
            clear hp6 Hp4 hp4 hl2 hl1 Hbad Hdg
            go_wp2_with fail
            refine (one_calls _ _ [101, 69] r3 hp5.cut (by omega)).mono ?_
            rintro e w6 ⟨rfl, hc, hg⟩
            have hp6 := hp5.step hc hg
            clear hp5 hc hg
            have hl7 := one_len [101, 69] r3
            have hpp : parseE neg a' exp r3 = if (oneS [101, 69] r3).1 = 0 then parseEnd neg a' exp (oneS [101, 69] r3).2 else
              if digsS (oneS [43, 45] (oneS [101, 69] r3).2).2 = [] then (Dec.zero, 170) else
              parseEnd neg a' (exp + (if (oneS [43, 45] (oneS [101, 69] r3).2).1 = 45 then -powerS (digsS (oneS [43, 45] (oneS [101, 69] r3).2).2) else powerS (digsS (oneS [43, 45] (oneS [101, 69] r3).2).2))) (restS (oneS [43, 45] (oneS [101, 69] r3).2).2) := rfl
            generalize (oneS [101, 69] r3).2 = r4 at *
            generalize (oneS [101, 69] r3).1 = c2 at *
            rw [hpp] at Hp6
            clear hpp
            go_upto_if 51 with fail
            go_cut [7] (fun s7 wc => ∃ (exp2 : Int) (r5 : List UInt8), s7 = .int .i64 exp2 ∧ Pst w wc r5 ∧ parseS l = parseEnd neg a' exp2 r5 ∧ -20000000 ≤ exp2 ∧ exp2 ≤ 20000000)
            case first =>
              by_cases h0 : c2 = 0
              · subst h0
                rw [if_pos rfl] at Hp6
                go_wp2_with fail
                go_meet
                exact ⟨exp, r4, rfl, hp6, Hp6.out, by omega, by omega⟩
              · have h0' : ((c2.toNat : Int) != 0) = true := by
                  have := u8_ne c2 0 (by omega) h0
                  rw [bne, show ((0 : Int)) = ((0 : Nat) : Int) from rfl, this]; rfl
                rw [if_neg h0] at Hp6
                clear h0
                go_wp2_with fail
                refine (one_calls _ _ [43, 45] r4 hp6.cut (by omega)).mono ?_
                rintro e w7 ⟨rfl, hc, hg⟩
                have hp7 := hp6.step hc hg
                clear hp6 hc hg
                have hl8 := one_len [43, 45] r4
                generalize (oneS [43, 45] r4).2 = r6 at *
                generalize (oneS [43, 45] r4).1 = c3 at *
                go_wp2_with fail
                refine (cutDigits_calls _ _ r6 hp7.cut (by omega)).mono ?_
                rintro e w8 ⟨rfl, hc, hg⟩
                have hp8 := hp7.step hc hg
                clear hp7 hc hg
                have hdl := digs_len r6
                have hdg := Dig_digs r6
                generalize digsS r6 = ds at *
                generalize restS r6 = r7 at *
                cases ds with
                | nil =>
                  have HP : ResAt w8 w.heap.size ∧ Below w.heap.size w w8 ∧ parseS l = (Dec.zero, 170) := ⟨hp8.res, hp8.bel, by rw [Hp6.out]; simp⟩
                  clear hdg
                  go_wp2_with fail
                  refine (power_none _).mono ?_
                  rintro e w9 ⟨rfl, rfl⟩
                  go_wp2_with fail
                  go_step3
                  exact ⟨rfl, ParseJ.mk HP⟩
                | cons d' t' =>
                  rw [if_neg (by simp)] at Hp6
                  have hpb := power_bd (d' :: t') hdg
                  go_wp2_with fail
                  refine (power_calls _ (d' :: t') hdg (by omega) (by simp)).mono ?_
                  rintro e w9 ⟨rfl, hb9⟩
                  have hp9 := hp8.under hb9
                  clear hp8 hb9 hdg hdl
                  generalize powerS (d' :: t') = pw at *
                  by_cases h45 : c3 = 45
                  · subst h45
                    rw [if_pos rfl] at Hp6
                    go_wp2_with fail
                    go_meet
                    exact ⟨exp + -pw, r7, by first | rfl | go_num, hp9, Hp6.out, by omega, by omega⟩
                  · have h45' : ((c3.toNat : Int) == 45) = false := u8_ne c3 45 (by omega) h45
                    rw [if_neg h45] at Hp6
                    clear h45
                    go_wp2_with fail
                    go_meet
                    exact ⟨exp + pw, r7, by first | rfl | go_num, hp9, Hp6.out, by omega, by omega⟩
            case rest =>
              obtain ⟨exp2, r5, rfl, hp7, hp8, he3, he4⟩ := hcut
              have Hp8 := Lib.hid hp8
              clear hp8 Hp6 hp6 hl7
              have hcc := hp7.cut.1
              cases r5 with
              | cons x5 t5 =>
                have Hpm : Hid (parseS l = (Dec.zero, 170)) := Hp8.out.trans rfl
                have hf0 := hp7.res.c0
                have hf1 := hp7.res.c1
                have hf2 := hp7.res.c2
                have hf3 := hp7.res.f0
                have hf4 := hp7.res.f1
                have hf5 := hp7.res.f2
                have hbel := hp7.bel
                go_wp2_with fail
                go_step3
                go_wp2
                simp only [Exit.jump]
                refine bodyPost_ret (v := .tuple #[.agg #[.bool false, .string ⟨#[]⟩, .int .i64 0], .int .i64 170]) (by simp [results, Tryz.results26, go_sem, hf0, hf1, hf2]) rfl ?_
                rw [Hpm.out]
                exact ⟨rfl, by go_grown⟩
              | nil =>
                have hpm : parseS l = madeS neg a' exp2 := by rw [Hp8.out]; rfl
                have Hpm := Lib.hid hpm
                clear hpm Hp8
                go_wp2_with fail
                refine (made_calls _ neg a' exp2 (by omega) (by omega) (by omega)).mono ?_
                rintro e w9 ⟨rfl, hb9⟩
                have hp9 := hp7.under hb9
                clear hp7 hb9 hcc
                generalize madeS neg a' exp2 = m at *
                obtain ⟨⟨mn, md, me⟩, mc⟩ := m
                simp only [DecV]
                have hf0 := hp9.res.c0
                have hf1 := hp9.res.c1
                have hf2 := hp9.res.c2
                have hf3 := hp9.res.f0
                have hf4 := hp9.res.f1
                have hf5 := hp9.res.f2
                have hbel := hp9.bel
                go_wp2_with fail
                simp only [Exit.jump]
                refine bodyPost_ret (v := .tuple #[.agg #[.bool mn, .string ⟨md.toArray⟩, .int .i64 me], .int .i64 mc]) (by simp [results, Tryz.results26, go_sem, hf0, hf1, hf2]) rfl ?_
                rw [Hpm.out]
                exact ⟨rfl, by go_grown⟩
  · rintro a' w' ⟨x0, x1, x3, x4, x5, x6, x7, x8, x9, x10, x11, x12, x13, x14, x15, x16, x17, x18, x19, x20, x21, x22, x23, x24, x25, x26, x27, x28, x29, x30, x31, x32, x33, x34, x35, x36, x37, x38, x39, x40, x41, x42, x43, x44, x45, x46, x47, x48, x49, x50, x51, x52, x53, x54, x55, x56, x57, x58, x59, x60, x61, x62, x63, x64, x65, x66, x67, x68, x69, x70, x71, x72, x73, x74, x75, x76, x77, x78, x79, x80, rfl, hres, hbel, hp⟩
    have hf0 := hres.c0
    have hf1 := hres.c1
    have hf2 := hres.c2
    have hf3 := hres.f0
    have hf4 := hres.f1
    have hf5 := hres.f2
    have Hp := Lib.hid hp
    clear hres hp
    go_wp2
    simp only [Exit.jump]
    refine bodyPost_ret (v := .tuple #[.agg #[.bool false, .string ⟨#[]⟩, .int .i64 0], .int .i64 170]) (by simp [results, Tryz.results26, go_sem, hf0, hf1, hf2]) rfl ?_
    rw [Hp.out]
    exact ⟨rfl, by go_grown⟩

theorem parse_calls (w : World) (l : List UInt8) (hl : l.length ≤ 1000000000) :
    Calls Tryz.prog 26 #[.string ⟨l.toArray⟩] w fun e w' => e = .returned (.tuple #[DecV (parseS l).1, .int .i64 (parseS l).2]) ∧ Below w.heap.size w w' := by
  by_cases h : 1000 < l.length
  · exact parse_long w l hl h
  · exact parse_short w l (by omega)
end Go.Proofs.YtkakmjdfecbhaaaGreatDoor
