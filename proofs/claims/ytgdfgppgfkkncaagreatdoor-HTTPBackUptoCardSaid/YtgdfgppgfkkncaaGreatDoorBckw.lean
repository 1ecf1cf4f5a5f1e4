/- The walk of HTTPBack: over any world. Printed by gen_back.py. -/
import Derived.Test.YtgdfgppgfkkncaaGreatDoorHby
import Derived.Test.YtgdfgppgfkkncaaGreatDoorHtG
namespace Go.Proofs.YtgdfgppgfkkncaaGreatDoor
open Go.RowKit

/-- Requests in a row of the call's own; what they refer to lies anywhere. -/
structure SomV (w : World) (B : Nat) (v : Value) (rs : List ReqR) : Prop where
  row : w.ownsRow B 40 6 v rs.length (reqRow rs)
  req : ∀ r ∈ rs, ReqS w (reqVal r) r.1
theorem SomV.nil (w : World) (B : Nat) : SomV w B (.slice none 0 0) [] := ⟨World.ownsRow_nil _ _ _ _, by simp⟩
theorem SomV.below {w w' : World} {B : Nat} {v : Value} {rs : List ReqR} (h : SomV w B v rs) (hb : Below w.heap.size w w') : SomV w' B v rs :=
  ⟨ownsRow_apart (S := fun _ => False) h.row (.ofBelow hb) (fun _ _ h => h), fun r hr => (h.req r hr).below hb⟩
theorem SomV.forms {w : World} {B : Nat} {v : Value} {rs : List ReqR} (h : SomV w B v rs) : ∃ p cap, v = .slice p rs.length cap := by
  rcases h.row.2 with ⟨hn, h2⟩ | ⟨g', cap, cur, e, _⟩
  · exact ⟨none, 0, by rw [hn, h2]⟩
  · exact ⟨_, cap, e⟩
theorem SomV.reqsS {w : World} {B : Nat} {v : Value} {rs : List ReqR} (h : SomV w B v rs) : ReqsS w v rs := by
  rcases h.row.2 with ⟨rfl, h2⟩ | ⟨g, cap, cur, rfl, h1, hgg, h3, h4, h5, h6⟩
  · exact .inl ⟨rfl, List.length_eq_zero_iff.1 h2⟩
  · refine .inr ⟨g, 0, cap, rfl, h3, by omega, (Array.getElem?_eq_some_iff.1 hgg).1, fun j r hr => ⟨fun i hi => ?_, h.req r (List.mem_of_getElem? hr)⟩⟩
    have hj := (List.getElem?_eq_some_iff.1 hr).1
    rw [Nat.zero_add, World.ownsRow.cellAt h.row (j * 6 + i) (by omega)]
    exact reqRow_at rs j r hr i hi
theorem ReqS.one {w : World} {r : ReqR} (h : ReqS w (reqVal r) r.1) : ∀ u ∈ reqCells r, u.oneCell' = true := by
  obtain ⟨hv, bv, e, h1, h2⟩ := h
  simp only [reqVal, Value.agg.injEq] at e
  have e2 : r.2.1 = hv ∧ r.2.2 = bv := by simpa using e
  obtain ⟨p1, c1, h3, _⟩ := h1.form
  obtain ⟨p2, c2, h4, _⟩ := h2.open
  intro u hu
  simp only [reqCells, List.mem_cons, List.not_mem_nil, or_false] at hu
  rcases hu with rfl | rfl | rfl | rfl | rfl | rfl
  · rfl
  · rfl
  · rfl
  · rw [e2.1, h3]; rfl
  · rw [e2.2, h4]; rfl
  · rfl
/-- 'append(some, l[i])'. -/
theorem wpList_append_som {w : World} {ops : Array Oper} {rest : List Oper} {o : Oper} {a : Act} {Q : Exit → Act → World → Prop} (hgd : o.guard = none) (s x : Operand)
    (ho : o.op = .call { callee := .builtin .append, args := #[s, x], argTypes := #[29, 29] })
    (B : Nat) (v : Value) (rs : List ReqR) (hv : a.eval s = v) (hown : SomV w B v rs) (r : ReqR) (hr : ReqS w (reqVal r) r.1)
    (G : Nat) (hx : a.eval x = .slice (some ⟨G, 0, none⟩) 1 1) (hG : G = w.heap.size) (hlen : rs.length ≤ 100000000) (hbase : B ≤ w.heap.size)
    (hK : ∀ v' w', w'.ownsRow B 40 6 v' (rs ++ [r]).length (reqRow (rs ++ [r])) → (w.alloc (.cells #[.string ⟨r.1.method.toArray⟩, .string ⟨r.1.path.toArray⟩, .string ⟨r.1.query.toArray⟩, r.2.1, r.2.2, .bool r.1.close] 40)).grownBy w' v.ownBlock → wpList Tryz.prog ops Q rest (a.put o.dst v') w') :
    wpList Tryz.prog ops Q (o :: rest) a (w.alloc (.cells #[.string ⟨r.1.method.toArray⟩, .string ⟨r.1.path.toArray⟩, .string ⟨r.1.query.toArray⟩, r.2.1, r.2.2, .bool r.1.close] 40)) := by
  subst hG
  obtain ⟨i0, hi, hz0, hz1, hz2⟩ := info_parts Tryz.info40
  refine wpList_append_own _ hgd s x 29 ho B 40 i0 _ 6 104 Tryz.underlying29 hi hz0 hz1 hz2 rfl (by decide) v rs.length (reqRow rs) hv (World.ownsRow.alloc hown.row _) ⟨w.heap.size, 0, none⟩ 1 1 (reqRow [r]) hx rfl ?_ ?_ ?_ ?_ (by simp; omega) ?_
  · intro j u hj
    rw [addr_off rfl, World.cell?_alloc_at _ _ _ _ rfl, Nat.zero_add]
    simpa [reqRow, reqCells] using hj
  · intro u hu
    have e : reqRow [r] = reqCells r := by simp [reqRow]
    rw [e] at hu
    exact hr.one u hu
  · unfold maxLen; omega
  · omega
  · intro v' w' h1 h2 _
    exact hK v' w' (by rw [List.length_append, reqRow_app]; exact h1) h2
/-- 'append(b, c...)' onto bytes of the call's own. -/
theorem wpList_append_byts {w : World} {ops : Array Oper} {rest : List Oper} {o : Oper} {a : Act} {Q : Exit → Act → World → Prop} (hgd : o.guard = none) (s x : Operand)
    (ho : o.op = .call { callee := .builtin .append, args := #[s, x], argTypes := #[23, 23] })
    (B : Nat) (v xv : Value) (l m : List UInt8) (hv : a.eval s = v) (hown : BytV w B v l) (hx : a.eval x = xv) (hxv : BytS w xv m) (hm : m ≠ []) (hlen : l.length + m.length ≤ 100000000) (hbase : B ≤ w.heap.size)
    (hK : ∀ v' w', BytV w' B v' (l ++ m) → w.grownBy w' v.ownBlock → wpList Tryz.prog ops Q rest (a.put o.dst v') w') :
    wpList Tryz.prog ops Q (o :: rest) a w := by
  obtain ⟨i0, hi, hz0, hz1, hz2⟩ := info_parts Tryz.info5
  rcases hxv with ⟨_, h⟩ | ⟨b, off, cap, rfl, h2, h3, h4, h5⟩
  · exact absurd h hm
  refine wpList_append_own _ hgd s x 23 ho B 5 i0 _ 1 1 Tryz.underlying23 hi hz0 hz1 hz2 rfl (by decide) v l.length (u8s l) hv hown ⟨b, off, none⟩ m.length cap (u8s m) hx (by rw [u8s_len, Nat.mul_one]) ?_ (u8s_one m) ?_ ?_ hbase ?_
  · intro j u hj
    have hj2 := (List.getElem?_eq_some_iff.1 hj).1
    rw [u8s_len] at hj2
    rw [u8s_at m j hj2] at hj
    cases hj
    rw [addr_off rfl]; exact h5 j hj2
  · unfold maxLen; omega
  · omega
  · intro v' w' h1 h2 _
    refine hK v' w' ?_ h2
    unfold BytV
    rw [List.length_append, u8s_app]
    exact h1
/-- Between two rounds of HTTPBack. -/
structure BkI (w wr : World) (i : Nat) (qs : List ReqR) (bl : List UInt8) (sh : Bool) (vb vs : Value) : Prop where
  byt : BytV wr w.heap.size vb bl
  som : SomV wr w.heap.size vs qs
  old : ∀ r ∈ qs, ReqS w (reqVal r) r.1
  b : Below w.heap.size w wr
  run : BackI (qs.map (·.1)) bl sh
  len : bl.length ≤ i * 50000
  cnt : qs.length ≤ i
theorem BkI.below {w wr w' : World} {i : Nat} {qs : List ReqR} {bl : List UInt8} {sh : Bool} {vb vs : Value} (h : BkI w wr i qs bl sh vb vs) (hb : Below wr.heap.size wr w') : BkI w w' i qs bl sh vb vs :=
  ⟨ownsRow_apart (S := fun _ => False) h.byt (.ofBelow hb) (fun _ _ h => h), h.som.below hb, h.old, h.b.trans (hb.mono h.b.size), h.run, h.len, h.cnt⟩
set_option maxHeartbeats 20000000 in
set_option maxRecDepth 100000 in
theorem back_calls (w : World) (he : Env w) (v : Value) (rs : List ReqR) (hx : ReqsS w v rs) (hn : ∀ r ∈ rs, reqN r.1 ≤ 50000000) : Calls Tryz.prog 9 #[v] w fun e w' => e = .returned (.bool true) ∧ Below w.heap.size w w' := by
  obtain ⟨pr, cr, rfl, hcr, hmr, hpr⟩ := hx.forms
  have He := Lib.hid he
  have HX := Lib.hid hx
  have HP := Lib.hid hpr
  have HN := Lib.hid hn
  clear he hx hpr hn
  go_enter Tryz.func9, Tryz.ntmps9
  by_cases hbig : 10 < rs.length
  ·
    have hb2 : (10 : Int) < rs.length := by omega
    go_wp2_with fail
    refine (works_calls w He.out).mono ?_
    rintro e w2 ⟨rfl, hb⟩
    go_wp2_with fail
    go_ret
    exact ⟨rfl, hb⟩
  have hb2 : ¬ (10 : Int) < rs.length := by omega
  go_wp2_with fail
  go_loopg [3, 4, 5, 6] rs.length (fun k s3 s4 s5 s6 wr => ∃ (i : Nat) (qs : List ReqR) (bl : List UInt8) (sh : Bool), k = rs.length - i ∧ i ≤ rs.length ∧ s5 = .bool sh ∧ s6 = .int .i64 (i : Int) ∧ BkI w wr i qs bl sh s3 s4)
  case atStart => exact ⟨0, [], [], false, rfl, Nat.zero_le _, rfl, rfl, ⟨World.ownsRow_nil _ _ _ _, SomV.nil _ _, (fun r hr => by cases hr), Below.refl _ _, BackI.zero, by simp, by simp⟩⟩
  case round =>
    obtain ⟨i, qs, bl, sh, hk, hi, rfl, rfl, hI⟩ := hrel
    have Hk := Lib.hid hk
    have HI := Lib.hid hI
    obtain ⟨pvb, cvb, rfl⟩ := hI.byt.forms
    obtain ⟨pvs, cvs, rfl⟩ := hI.som.forms
    have HQS : Hid (∀ W, Below w.heap.size w W → ∀ r ∈ qs, ReqS W (reqVal r) r.1) := fun W hW r hr => (hI.old r hr).below hW
    have hlen := hI.len
    have hcnt := hI.cnt
    clear hk hI
    go_upto_region 7 with fail
    go_cut [24] from 17 to 61 (fun u9 wc => u9 = .bool (decide (i < rs.length) && !sh) ∧ wr = wc)
    case first =>
      by_cases hlt : i < rs.length
      ·
        have hlt2 : (i : Int) < rs.length := by omega
        have HLT := Lib.hid hlt
        clear hlt
        cases sh with
        | true =>
          go_wp2_with fail
          go_meet
          exact ⟨by rw [decide_eq_true HLT.out]; rfl, rfl⟩
        | false =>
          go_wp2_with fail
          go_meet
          exact ⟨by rw [decide_eq_true HLT.out]; rfl, rfl⟩
      ·
        have hlt2 : ¬ (i : Int) < rs.length := by omega
        have HLT := Lib.hid hlt
        clear hlt
        go_wp2_with fail
        go_meet
        exact ⟨by rw [decide_eq_false (by have := HLT.out; omega)]; rfl, rfl⟩
    case rest =>
      obtain ⟨rfl, rfl⟩ := hcut
      cases hst : (decide (i < rs.length) && !sh) with
      | true =>
        have hlt : i < rs.length ∧ sh = false := by simpa using hst
        obtain ⟨hlt, rfl⟩ := hlt
        clear hst
        have hlt2 : (i : Int) < rs.length := by omega
        obtain ⟨gr, or_, rfl⟩ := HP.out (by omega)
        obtain ⟨r, hr⟩ : ∃ r, rs[i]? = some r := ⟨_, List.getElem?_eq_getElem hlt⟩
        have HRN := Lib.hid (HN.out r (List.mem_of_getElem? hr))
        have HY : Hid (∀ W, Below w.heap.size w W → (∀ j, j < 6 → W.cell? ⟨gr, or_ + i * 6 + j, none⟩ = (reqCells r)[j]?) ∧ ReqS W (reqVal r) r.1) := fun W hW => ⟨fun j hj => (HX.out.below hW).at hr j hj, (HX.out.below hW).req hr⟩
        clear hr
        obtain ⟨⟨m, u, qy, hs, bd, cl⟩, hv, bv⟩ := r
        have y0 := (HY.out wr HI.out.b).1 0 (by decide)
        have y1 := (HY.out wr HI.out.b).1 1 (by decide)
        have y2 := (HY.out wr HI.out.b).1 2 (by decide)
        have y3 := (HY.out wr HI.out.b).1 3 (by decide)
        have y4 := (HY.out wr HI.out.b).1 4 (by decide)
        have y5 := (HY.out wr HI.out.b).1 5 (by decide)
        simp only [reqCells, List.getElem?_cons_zero, List.getElem?_cons_succ, Nat.add_zero] at y0 y1 y2 y3 y4 y5
        go_wp2_with fail
        refine (long_calls wr _ _ (HY.out wr HI.out.b).2 (by have := HRN.out; omega)).mono ?_
        rintro e w2 ⟨rfl, hb2⟩
        have HI2 := Lib.hid (HI.out.below hb2)
        clear hb2 HI y0 y1 y2 y3 y4 y5
        by_cases hlong : 40000 < reqN ⟨m, u, qy, hs, bd, cl⟩
        ·
          rw [decide_eq_true hlong]
          clear hlong
          go_wp2_with fail
          refine (works_calls w2 (He.out.below HI2.out.b)).mono ?_
          rintro e w3 ⟨rfl, hb3⟩
          go_wp2_with fail
          go_ret
          exact ⟨rfl, HI2.out.b.trans (hb3.mono HI2.out.b.size)⟩
        rw [decide_eq_false hlong]
        have hTl := toldS_len ⟨m, u, qy, hs, bd, cl⟩
        have HTL : Hid ((toldS ⟨m, u, qy, hs, bd, cl⟩).length ≤ 50000) := Lib.hid (by omega)
        clear hlong hTl
        have y0 := (HY.out w2 HI2.out.b).1 0 (by decide)
        have y1 := (HY.out w2 HI2.out.b).1 1 (by decide)
        have y2 := (HY.out w2 HI2.out.b).1 2 (by decide)
        have y3 := (HY.out w2 HI2.out.b).1 3 (by decide)
        have y4 := (HY.out w2 HI2.out.b).1 4 (by decide)
        have y5 := (HY.out w2 HI2.out.b).1 5 (by decide)
        simp only [reqCells, List.getElem?_cons_zero, List.getElem?_cons_succ, Nat.add_zero] at y0 y1 y2 y3 y4 y5
        go_wp2_with fail
        refine (bytesP_calls w2 (He.out.below HI2.out.b) _ _ (HY.out w2 HI2.out.b).2 (by have := HRN.out; omega)).mono ?_
        rintro e w3 ⟨hout, hb3⟩
        have HI3 := Lib.hid (HI2.out.below hb3)
        clear hb3 HI2 y0 y1 y2 y3 y4 y5
        rcases hout with ⟨hbk, bv3, rfl, hbs⟩ | ⟨hbk, rfl⟩
        ·
          have HBK := Lib.hid hbk
          have HBS := Lib.hid hbs
          have HTN : Hid (toldS ⟨m, u, qy, hs, bd, cl⟩ ≠ []) := Lib.hid (by unfold toldS; simp)
          obtain ⟨T, hT⟩ : ∃ T, toldS ⟨m, u, qy, hs, bd, cl⟩ = T := ⟨_, rfl⟩
          rw [hT] at HBK HBS HTL HTN
          clear hbk hbs hT
          obtain ⟨p3, c3, rfl, _⟩ := HBS.out.open
          go_wp2_with fail
          refine (num_calls _ _).mono ?_
          rintro e9 w9 ⟨rfl, rfl⟩
          go_wp2_with (at_builtin; go_must (refine wpList_append_byts rfl _ _ rfl w.heap.size _ _ bl T rfl HI3.out.byt rfl HBS.out HTN.out ?hlen HI3.out.b.size ?_))
          case hlen => have := HTL.out; omega
          intro vb4 w4 hvb4 hg4
          have HB4 := Lib.hid (HI3.out.b.grown hg4 HI3.out.b.size (fun k hk => (World.ownsRow.lt HI3.out.byt k hk).1))
          have HV4 := Lib.hid hvb4
          have HS4 : Hid (SomV w4 w.heap.size (.slice pvs qs.length cvs) qs) := ⟨ownsRow_apart (S := fun k => (Value.slice pvb bl.length cvb).ownBlock = some k) HI3.out.som.row (Apart.ofGrown hg4 (fun k hk => hk)) (fun k hk h9 => ownsRow_ne HI3.out.som.row HI3.out.byt (by decide) k hk h9), fun r hr => ?rq⟩
          case rq => exact HQS.out w4 HB4.out r hr
          obtain ⟨p4, c4, rfl⟩ := hvb4.forms
          clear hvb4 hg4
          have y0 := (HY.out w4 HB4.out).1 0 (by decide)
          have y1 := (HY.out w4 HB4.out).1 1 (by decide)
          have y2 := (HY.out w4 HB4.out).1 2 (by decide)
          have y3 := (HY.out w4 HB4.out).1 3 (by decide)
          have y4 := (HY.out w4 HB4.out).1 4 (by decide)
          have y5 := (HY.out w4 HB4.out).1 5 (by decide)
          simp only [reqCells, List.getElem?_cons_zero, List.getElem?_cons_succ, Nat.add_zero] at y0 y1 y2 y3 y4 y5
          go_wp2_with (at_builtin; go_must (refine wpList_append_som rfl _ _ rfl w.heap.size _ qs rfl HS4.out (⟨m, u, qy, hs, bd, cl⟩, hv, bv) (HY.out w4 HB4.out).2 _ rfl rfl ?hlen2 HB4.out.size ?_))
          case hlen2 => omega
          intro vs5 w5 hvs5 hg5
          have HB5 := Lib.hid ((HB4.out.alloc HB4.out.size _).grown hg5 (by have := HB4.out.size; rw [World.size_alloc]; omega) (fun k hk => (World.ownsRow.lt HS4.out.row k hk).1))
          have HV5 : Hid (BytV w5 w.heap.size (.slice p4 (bl ++ T).length c4) (bl ++ T)) := ownsRow_apart (S := fun k => (Value.slice pvs qs.length cvs).ownBlock = some k) (World.ownsRow.alloc HV4.out _) (Apart.ofGrown hg5 (fun k hk => hk)) (fun k hk h9 => ownsRow_ne HV4.out HS4.out.row (by decide) k hk h9)
          have HS5 : Hid (SomV w5 w.heap.size vs5 (qs ++ [(⟨m, u, qy, hs, bd, cl⟩, hv, bv)])) := ⟨by rw [List.length_append, List.length_singleton]; exact hvs5, fun r hr => ?rq5⟩
          case rq5 =>
            rcases List.mem_append.1 hr with h9 | h9
            · exact HQS.out w5 HB5.out r h9
            · rw [List.mem_singleton.1 h9]; exact (HY.out w5 HB5.out).2
          obtain ⟨p5, c5, rfl⟩ := HS5.out.forms
          clear hvs5 hg5 HS4 HV4 y0 y1 y2 y3 y4 y5
          have y5 := (HY.out w5 HB5.out).1 5 (by decide)
          simp only [reqCells, List.getElem?_cons_zero, List.getElem?_cons_succ] at y5
          rw [List.length_append] at HV5
          have HRUN : Hid (BackI ((qs ++ [((⟨m, u, qy, hs, bd, cl⟩ : Req), hv, bv)]).map (·.1)) (bl ++ T) cl) := by
            have h9 := HI3.out.run.step HBK.out
            rw [List.map_append]
            exact h9
          go_wp2_with fail
          go_roundg (rs.length - (i + 1))
          case measure => have := Hk.out; omega
          case rel =>
            have h1 := HTL.out
            have h2 := HI3.out.len
            have h3 := HI3.out.cnt
            refine ⟨i + 1, _, _, cl, rfl, by omega, rfl, by go_num, ⟨HV5.out, HS5.out, ?_, HB5.out, HRUN.out, ?_, ?_⟩⟩
            · intro r hr
              rcases List.mem_append.1 hr with h9 | h9
              · exact HI3.out.old r h9
              · rw [List.mem_singleton.1 h9]; exact (HY.out w (Below.refl _ _)).2
            · rw [List.length_append, Nat.succ_mul]; exact Nat.add_le_add h2 h1
            · rw [List.length_append, List.length_singleton]; exact Nat.succ_le_succ h3
        ·
          clear hbk
          go_wp2_with fail
          refine (num_calls _ _).mono ?_
          rintro e9 w9 ⟨rfl, rfl⟩
          go_wp2_with fail
          go_roundg (rs.length - (i + 1))
          case measure => have := Hk.out; omega
          case rel =>
            have h2 := HI3.out.len
            have h3 := HI3.out.cnt
            refine ⟨i + 1, qs, bl, false, rfl, by omega, rfl, by go_num, ⟨HI3.out.byt, HI3.out.som, HI3.out.old, HI3.out.b, HI3.out.run, ?_, ?_⟩⟩
            · exact Nat.le_trans h2 (Nat.mul_le_mul_right _ (Nat.le_succ i))
            · exact Nat.le_succ_of_le h3
      | false =>
        clear hst
        have HRUN := Lib.hid HI.out.run
        unfold BackI at HRUN
        have hbl : bl.length ≤ 500000 := by have := hlen; omega
        go_wp2_with fail
        refine (all_calls wr (He.out.below HI.out.b) _ _ bl [] (BytV.byts HI.out.byt) (.inl ⟨rfl, rfl⟩) (by omega) (by simp)).mono ?_
        rintro e1 w1 ⟨⟨x1, rs1, rfl, hr1, hm1⟩, hb1⟩
        rw [HRUN.out] at hm1 ⊢
        dsimp only at hm1 ⊢
        have HI1 := Lib.hid (HI.out.below hb1)
        have HR1 := Lib.hid hr1.reqsS
        have HM1 := Lib.hid hm1
        clear hr1 hm1 hb1 HI
        go_wp2_with fail
        refine (lists_trueS w1 _ _ rs1 qs HR1.out HI1.out.som.reqsS HM1.out).mono ?_
        rintro e3 w3 ⟨rfl, hb3⟩
        have HB3 := Lib.hid (HI1.out.b.trans (hb3.mono HI1.out.b.size))
        clear hb3
        go_wp2_with fail
        refine (works_calls w3 (He.out.below HB3.out)).mono ?_
        rintro e4 w4 ⟨rfl, hb4⟩
        go_wp2_with fail
        go_ret
        exact ⟨rfl, HB3.out.trans (hb4.mono HB3.out.size)⟩
end Go.Proofs.YtgdfgppgfkkncaaGreatDoor
