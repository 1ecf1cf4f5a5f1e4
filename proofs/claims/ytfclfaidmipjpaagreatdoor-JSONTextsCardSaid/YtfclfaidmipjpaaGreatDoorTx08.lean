/- Texts of this claim, joined: Jr10. -/
import Derived.Test.YtfclfaidmipjpaaGreatDoorCo27
import Derived.Test.YtfclfaidmipjpaaGreatDoorTx07
namespace Go.Proofs.YtfclfaidmipjpaaGreatDoor
set_option maxRecDepth 100000
set_option maxHeartbeats 20000000
open Go.RowKit
theorem NumI.val {w wr : World} {R g2 : Nat} {b : List UInt8} {m : Nat} {bad : Bool} {f : Fl} (h : NumI w wr R g2 b m bad f) (hg : R < g2) (hw : w.heap.size ≤ g2) (x0 x1 x2 x3 x4 x5 x6 x7 : Value) {S : Nat → Prop} {r : JR} (hj : JV wr S r) (hs : ∀ k, S k → g2 < k) :
  OnlyR R w (set8 wr g2 x0 x1 x2 x3 x4 x5 x6 x7) ∧ RdAt (set8 wr g2 x0 x1 x2 x3 x4 x5 x6 x7) R b m bad f ∧ JV (set8 wr g2 x0 x1 x2 x3 x4 x5 x6 x7) (fun k => w.heap.size ≤ k) r := by
 obtain ⟨h1, h2⟩ := h.ret hg hw x0 x1 x2 x3 x4 x5 x6 x7
 refine ⟨h1, h2, ?_⟩
 exact ((hj.mono (S' := fun k => g2 < k) (fun k _ hk => hs k hk)).apart (set8_apart wr g2 x0 x1 x2 x3 x4 x5 x6 x7) (fun k hk _ e => by omega)).mono (fun k _ hk => by omega)
theorem ValTo.mk {w W : World} {R : Nat} {b : List UInt8} {n d m : Nat} {bad : Bool} {f f2 : Fl} {k : Nat} {r : JR} (ho : OnlyR R w W) (hr : RdAt W R b m bad f2) (hj : JV W (fun k => w.heap.size ≤ k) r) (hm : m ≤ b.length)
  (hx : (bad = true ∧ valS [] k d (b.drop n) f = none) ∨ (bad = false ∧ n < m ∧ valS [] k d (b.drop n) f = some (r.1, b.drop m, f2))) : ValTo w R b n d f k (.returned (jval r)) W := by
 rcases hx with ⟨rfl, h⟩ | ⟨rfl, h1, h2⟩
 ·exact ⟨ho, .inl ⟨h, m, f2, r, hm, rfl, hj, hr⟩⟩
 ·exact ⟨ho, .inr ⟨r, m, f2, h2, hm, h1, rfl, hj, hr⟩⟩
theorem takeB_iff {b : List UInt8} {m : Nat} {s : List UInt8} : takeB b m s = true ↔ (b.drop m).take s.length = s := by unfold takeB; rw [beq_iff_eq]
theorem value_step (k : Nat) (HV : ∀ j, j < k → ValAll j) : ValAll k := by
 intro w R b n d f h hn hl hd hk
 have hRw := h.lt
 have hr0 := RowAt.new w jz.toArray 30
 have hb0 : Below w.heap.size w (w.alloc (Obj.cells #[Value.int IntKind.i64 0, Value.bool false, Value.bool false, Value.string { data := #[] }, Value.int IntKind.i64 0, Value.string { data := #[] }, Value.slice none 0 0, Value.slice none 0 0] 30)) := (Below.refl _ _).alloc (Nat.le_refl _) _
 have HI0 : Hid (NumI w (w.alloc (Obj.cells #[Value.int IntKind.i64 0, Value.bool false, Value.bool false, Value.string { data := #[] }, Value.int IntKind.i64 0, Value.string { data := #[] }, Value.slice none 0 0, Value.slice none 0 0] 30)) R w.heap.size b n false f) := Lib.hid ⟨h.below hb0, OnlyR.ofBelow hb0, hr0⟩
 have HG : Hid (R < w.heap.size) := Lib.hid hRw
 have HGW : Hid (w.heap.size ≤ w.heap.size) := Lib.hid (Nat.le_refl _)
 have HVV := Lib.hid HV
 clear hr0 hb0 h hRw HV
 go_enter Tryz.func50, Tryz.ntmps50
 go_upto_region 1 with fail
 have HG2 : Hid (∃ g, w.heap.size = g ∧ R < g ∧ w.heap.size ≤ g) := Lib.hid ⟨_, rfl, HG.out, Nat.le_refl _⟩
 clear HG HGW
 obtain ⟨g2, hg2, hg3, hg4⟩ := HG2.out
 rw [hg2] at HI0 ⊢
 have HG : Hid (R < g2) := Lib.hid hg3
 have HGW : Hid (w.heap.size ≤ g2) := Lib.hid hg4
 clear HG2 hg2 hg3 hg4
 generalize (w.alloc (Obj.cells #[Value.int IntKind.i64 0, Value.bool false, Value.bool false, Value.string { data := #[] }, Value.int IntKind.i64 0, Value.string { data := #[] }, Value.slice none 0 0, Value.slice none 0 0] 30)) = w1 at *
 go_wp2_with fail
 refine (blanks_calls w1 HI0.out.rd hn (by omega)).mono ?_
 rintro e w2 ⟨m, rfl, hnm, hm, hsk, hr2, ho2⟩
 have HI2 := Lib.hid (HI0.out.only HG.out ho2 hr2)
 have HSK := Lib.hid hsk
 clear hr2 ho2 hsk HI0
 go_wp2_with fail
 refine (next_calls w2 HI2.out.rd).mono ?_
 rintro e w3 ⟨rfl, hb3⟩
 have HI3 := Lib.hid (HI2.out.below hb3)
 clear hb3 HI2
 obtain ⟨k1, rfl⟩ : ∃ k1, k = k1 + 1 := ⟨k - 1, by omega⟩
 have hdb : d < 1000000000 := by omega
 have HK := Lib.hid hk
 have HD := Lib.hid hd
 clear hk hd
 have hc := (b.getD m 0).toNat_lt
 by_cases hlt : m < b.length
 ·
  as_aux_lemma =>
   have HVU := Lib.hid (valS_at (z := []) (n := k1) (d := d) (f := f) HSK.out (drop_at hlt))
   have HQS : Hid (b.getD m 0 = 34 → qS [] (b.drop m) = qtS [] (b.drop (m + 1))) := Lib.hid (fun h9 => by rw [drop_at hlt, h9]; rfl)
   generalize b.getD m 0 = c at *
   clear HSK
   by_cases e123 : c.toNat = 123
   ·
    as_aux_lemma =>
     have h123 : ((c.toNat : Int) == 123) = true := by rw [beq_iff_eq]; omega
     have ec : c = 123 := UInt8.toNat_inj.1 (by rw [e123]; rfl)
     have hvu := HVU.out
     rw [if_pos ec] at hvu
     have HVU := Lib.hid hvu
     clear hvu ec HQS
     go_wp2_with fail
     have HD2 : Hid (d + 1 + (b.length - m) ≤ 1000000000) := Lib.hid (by have := HD.out; omega)
     have HK2 : Hid (3 * (b.length - m) + 2 ≤ k1) := Lib.hid (by have := HK.out; omega)
     rw [show (d : Int) + 1 = ((d + 1 : Nat) : Int) from by omega]
     refine (in_calls k1 (fun j hj => HVV.out j (by omega)) w3 true HI3.out.rd hlt hl HD2.out HK2.out).mono ?_
     rintro e w4 ⟨ho4, hv4⟩
     have hres : ∃ (r : JR) (m4 : Nat) (bq : Bool) (fq : Fl), e = .returned (jval r) ∧ m4 ≤ b.length ∧ RdAt w4 R b m4 bq fq ∧ JV w4 (fun k => w3.heap.size ≤ k) r ∧ ((bq = true ∧ valS [] (k1 + 1) d (b.drop n) f = none) ∨ (bq = false ∧ n < m4 ∧ valS [] (k1 + 1) d (b.drop n) f = some (r.1, b.drop m4, fq))) := by
      rw [HVU.out]
      rcases hv4 with ⟨h1, m4, fq, r, h2, h3, h4, h5⟩ | ⟨r, m4, fq, h1, h2, h3, h4, h5, h6⟩
      ·exact ⟨r, m4, true, fq, h3, h2, h5, h4, .inl ⟨rfl, h1⟩⟩
      ·exact ⟨r, m4, false, fq, h4, h2, h6, h5, .inr ⟨rfl, by omega, h1⟩⟩
     clear hv4
     obtain ⟨r, m4, bq, fq, rfl, hm4, hr4, hj4, hq4⟩ := hres
     have HQV := Lib.hid hq4
     have HI4 := Lib.hid (HI3.out.only HG.out ho4 hr4)
     have HGS : Hid (∀ k, w3.heap.size ≤ k → g2 < k) := Lib.hid (fun k hk => by have := HI3.out.res.lt; omega)
     have HJV := Lib.hid hj4
     clear hq4 ho4 hr4 hj4
     obtain ⟨⟨kd, bb, ⟨ng, dg, ex⟩, tx, l2, ns2⟩, lv2, nv2⟩ := r
     obtain ⟨p1, c1, p2, c2e, e1, e2⟩ := HJV.out.slices
     simp only at e1 e2
     subst e1 e2
     simp only [jval, J.kind, J.b, J.n, J.t]
     go_wp2_with (first | with_reducible refine stop_ret ?_ | refine wpList_store8 rfl _ _ rfl rfl HI4.out.res rfl _ _ _ _ _ _ _ _ rfl rfl rfl ?_)
     refine Lib.hid ?_
     obtain ⟨ho, hr, hj⟩ := HI4.out.val HG.out HGW.out (.int .i64 kd) (.bool bb) (.bool ng) (.string ⟨dg.toArray⟩) (.int .i64 ex) (.string ⟨tx.toArray⟩) (.slice p1 (J.mk kd bb ⟨ng, dg, ex⟩ tx l2 ns2).l.length c1) (.slice p2 (J.mk kd bb ⟨ng, dg, ex⟩ tx l2 ns2).ns.length c2e) HJV.out HGS.out
     have hrow := set8_row HI4.out.res rfl (.int .i64 kd) (.bool bb) (.bool ng) (.string ⟨dg.toArray⟩) (.int .i64 ex) (.string ⟨tx.toArray⟩) (.slice p1 (J.mk kd bb ⟨ng, dg, ex⟩ tx l2 ns2).l.length c1) (.slice p2 (J.mk kd bb ⟨ng, dg, ex⟩ tx l2 ns2).ns.length c2e)
     change bodyPost _ _ _ _ _ (set8 w4 g2 (.int .i64 kd) (.bool bb) (.bool ng) (.string ⟨dg.toArray⟩) (.int .i64 ex) (.string ⟨tx.toArray⟩) (.slice p1 (J.mk kd bb ⟨ng, dg, ex⟩ tx l2 ns2).l.length c1) (.slice p2 (J.mk kd bb ⟨ng, dg, ex⟩ tx l2 ns2).ns.length c2e))
     generalize set8 w4 g2 (.int .i64 kd) (.bool bb) (.bool ng) (.string ⟨dg.toArray⟩) (.int .i64 ex) (.string ⟨tx.toArray⟩) (.slice p1 (J.mk kd bb ⟨ng, dg, ex⟩ tx l2 ns2).l.length c1) (.slice p2 (J.mk kd bb ⟨ng, dg, ex⟩ tx l2 ns2).ns.length c2e) = W8 at *
     refine bodyPost_ret8 rfl rfl rfl hrow ?_
     exact ValTo.mk ho hr hj hm4 HQV.out
   by_cases e91 : c.toNat = 91
   ·
    as_aux_lemma =>
     have h123 : ((c.toNat : Int) == 123) = false := by rw [beq_eq_false_iff_ne]; omega
     have h91 : ((c.toNat : Int) == 91) = true := by rw [beq_iff_eq]; omega
     have ec : c = 91 := UInt8.toNat_inj.1 (by rw [e91]; rfl)
     have hvu := HVU.out
     rw [if_neg (by rw [ec]; decide), if_pos ec] at hvu
     have HVU := Lib.hid hvu
     clear hvu ec HQS
     go_wp2_with fail
     have HD2 : Hid (d + 1 + (b.length - m) ≤ 1000000000) := Lib.hid (by have := HD.out; omega)
     have HK2 : Hid (3 * (b.length - m) + 2 ≤ k1) := Lib.hid (by have := HK.out; omega)
     rw [show (d : Int) + 1 = ((d + 1 : Nat) : Int) from by omega]
     refine (in_calls k1 (fun j hj => HVV.out j (by omega)) w3 false HI3.out.rd hlt hl HD2.out HK2.out).mono ?_
     rintro e w4 ⟨ho4, hv4⟩
     have hres : ∃ (r : JR) (m4 : Nat) (bq : Bool) (fq : Fl), e = .returned (jval r) ∧ m4 ≤ b.length ∧ RdAt w4 R b m4 bq fq ∧ JV w4 (fun k => w3.heap.size ≤ k) r ∧ ((bq = true ∧ valS [] (k1 + 1) d (b.drop n) f = none) ∨ (bq = false ∧ n < m4 ∧ valS [] (k1 + 1) d (b.drop n) f = some (r.1, b.drop m4, fq))) := by
      rw [HVU.out]
      rcases hv4 with ⟨h1, m4, fq, r, h2, h3, h4, h5⟩ | ⟨r, m4, fq, h1, h2, h3, h4, h5, h6⟩
      ·exact ⟨r, m4, true, fq, h3, h2, h5, h4, .inl ⟨rfl, h1⟩⟩
      ·exact ⟨r, m4, false, fq, h4, h2, h6, h5, .inr ⟨rfl, by omega, h1⟩⟩
     clear hv4
     obtain ⟨r, m4, bq, fq, rfl, hm4, hr4, hj4, hq4⟩ := hres
     have HQV := Lib.hid hq4
     have HI4 := Lib.hid (HI3.out.only HG.out ho4 hr4)
     have HGS : Hid (∀ k, w3.heap.size ≤ k → g2 < k) := Lib.hid (fun k hk => by have := HI3.out.res.lt; omega)
     have HJV := Lib.hid hj4
     clear hq4 ho4 hr4 hj4
     obtain ⟨⟨kd, bb, ⟨ng, dg, ex⟩, tx, l2, ns2⟩, lv2, nv2⟩ := r
     obtain ⟨p1, c1, p2, c2e, e1, e2⟩ := HJV.out.slices
     simp only at e1 e2
     subst e1 e2
     simp only [jval, J.kind, J.b, J.n, J.t]
     go_wp2_with (first | with_reducible refine stop_ret ?_ | refine wpList_store8 rfl _ _ rfl rfl HI4.out.res rfl _ _ _ _ _ _ _ _ rfl rfl rfl ?_)
     refine Lib.hid ?_
     obtain ⟨ho, hr, hj⟩ := HI4.out.val HG.out HGW.out (.int .i64 kd) (.bool bb) (.bool ng) (.string ⟨dg.toArray⟩) (.int .i64 ex) (.string ⟨tx.toArray⟩) (.slice p1 (J.mk kd bb ⟨ng, dg, ex⟩ tx l2 ns2).l.length c1) (.slice p2 (J.mk kd bb ⟨ng, dg, ex⟩ tx l2 ns2).ns.length c2e) HJV.out HGS.out
     have hrow := set8_row HI4.out.res rfl (.int .i64 kd) (.bool bb) (.bool ng) (.string ⟨dg.toArray⟩) (.int .i64 ex) (.string ⟨tx.toArray⟩) (.slice p1 (J.mk kd bb ⟨ng, dg, ex⟩ tx l2 ns2).l.length c1) (.slice p2 (J.mk kd bb ⟨ng, dg, ex⟩ tx l2 ns2).ns.length c2e)
     change bodyPost _ _ _ _ _ (set8 w4 g2 (.int .i64 kd) (.bool bb) (.bool ng) (.string ⟨dg.toArray⟩) (.int .i64 ex) (.string ⟨tx.toArray⟩) (.slice p1 (J.mk kd bb ⟨ng, dg, ex⟩ tx l2 ns2).l.length c1) (.slice p2 (J.mk kd bb ⟨ng, dg, ex⟩ tx l2 ns2).ns.length c2e))
     generalize set8 w4 g2 (.int .i64 kd) (.bool bb) (.bool ng) (.string ⟨dg.toArray⟩) (.int .i64 ex) (.string ⟨tx.toArray⟩) (.slice p1 (J.mk kd bb ⟨ng, dg, ex⟩ tx l2 ns2).l.length c1) (.slice p2 (J.mk kd bb ⟨ng, dg, ex⟩ tx l2 ns2).ns.length c2e) = W8 at *
     refine bodyPost_ret8 rfl rfl rfl hrow ?_
     exact ValTo.mk ho hr hj hm4 HQV.out
   by_cases e34 : c.toNat = 34
   ·
    as_aux_lemma =>
     have h123 : ((c.toNat : Int) == 123) = false := by rw [beq_eq_false_iff_ne]; omega
     have h91 : ((c.toNat : Int) == 91) = false := by rw [beq_eq_false_iff_ne]; omega
     have h34 : ((c.toNat : Int) == 34) = true := by rw [beq_iff_eq]; omega
     have ec : c = 34 := UInt8.toNat_inj.1 (by rw [e34]; rfl)
     have hvu := HVU.out
     rw [if_neg (by rw [ec]; decide), if_neg (by rw [ec]; decide), if_pos ec] at hvu
     have HVU := Lib.hid hvu
     have HQE := Lib.hid (HQS.out ec)
     clear hvu ec HQS
     go_wp2_with fail
     refine (quotedR_calls w3 HI3.out.rd hm (by omega)).mono ?_
     rintro e w4 ⟨ho4, hq4⟩
     have hres : ∃ (u : List UInt8) (m4 : Nat) (bq : Bool) (fq : Fl), e = .returned (.string ⟨u.toArray⟩) ∧ m4 ≤ b.length ∧ RdAt w4 R b m4 bq fq ∧ ((bq = true ∧ valS [] (k1 + 1) d (b.drop n) f = none) ∨ (bq = false ∧ n < m4 ∧ valS [] (k1 + 1) d (b.drop n) f = some (.mk 3 false Dec.zero u [] [], b.drop m4, fq))) := by
      rw [HVU.out, ← HQE.out]
      rcases hq4 with ⟨h1, m4, u, fq, h2, h3, h4⟩ | ⟨u, m4, a, h1, h2, h3, _, h4, h5⟩
      ·exact ⟨u, m4, true, fq, h3, h2, h4, .inl ⟨rfl, by rw [h1]⟩⟩
      ·exact ⟨u, m4, false, _, h4, h2, h5, .inr ⟨rfl, by omega, by rw [h1]⟩⟩
     clear hq4
     obtain ⟨u, m4, bq, fq, rfl, hm4, hr4, hq4⟩ := hres
     have HQV := Lib.hid hq4
     have HI4 := Lib.hid (HI3.out.only HG.out ho4 hr4)
     clear hq4 ho4 hr4
     go_wp2_with (first | with_reducible refine stop_ret ?_ | refine wpList_store8 rfl _ _ rfl rfl HI4.out.res rfl _ _ _ _ _ _ _ _ rfl rfl rfl ?_)
     refine Lib.hid ?_
     obtain ⟨ho, hr, hj⟩ := HI4.out.val HG.out HGW.out (.int .i64 3) (.bool false) (.bool false) (.string ⟨#[]⟩) (.int .i64 0) (.string ⟨u.toArray⟩) (.slice none 0 0) (.slice none 0 0) (JV.leaf w4 (fun _ => False) 3 false Dec.zero u) (fun _ h => h.elim)
     have hrow := set8_row HI4.out.res rfl (.int .i64 3) (.bool false) (.bool false) (.string ⟨#[]⟩) (.int .i64 0) (.string ⟨u.toArray⟩) (.slice none 0 0) (.slice none 0 0)
     change bodyPost _ _ _ _ _ (set8 w4 g2 (.int .i64 3) (.bool false) (.bool false) (.string ⟨#[]⟩) (.int .i64 0) (.string ⟨u.toArray⟩) (.slice none 0 0) (.slice none 0 0))
     generalize set8 w4 g2 (.int .i64 3) (.bool false) (.bool false) (.string ⟨#[]⟩) (.int .i64 0) (.string ⟨u.toArray⟩) (.slice none 0 0) (.slice none 0 0) = W8 at *
     refine bodyPost_ret8 rfl rfl rfl hrow ?_
     exact ValTo.mk ho hr hj hm4 HQV.out
   have hne3 : ¬ c = 123 ∧ ¬ c = 91 ∧ ¬ c = 34 := ⟨fun h => e123 (by rw [h]; rfl), fun h => e91 (by rw [h]; rfl), fun h => e34 (by rw [h]; rfl)⟩
   have hvu := HVU.out
   rw [if_neg hne3.1, if_neg hne3.2.1, if_neg hne3.2.2] at hvu
   have HVU := Lib.hid hvu
   clear hvu hne3 HQS
   by_cases e45 : c.toNat = 45
   ·
    as_aux_lemma =>
     have h123 : ((c.toNat : Int) == 123) = false := by rw [beq_eq_false_iff_ne]; omega
     have h91 : ((c.toNat : Int) == 91) = false := by rw [beq_eq_false_iff_ne]; omega
     have h34 : ((c.toNat : Int) == 34) = false := by rw [beq_eq_false_iff_ne]; omega
     have h45 : ((c.toNat : Int) == 45) = true := by rw [beq_iff_eq]; omega
     have ec : c = 45 := UInt8.toNat_inj.1 (by rw [e45]; rfl)
     have hnb : c = 45 ∨ digB c = true := .inl ec
     clear ec
     have hvu := HVU.out
     rw [if_pos hnb] at hvu
     have HVU := Lib.hid hvu
     clear hvu hnb
     go_wp2_with fail
     refine (number_calls w3 HI3.out.rd hm (by omega)).mono ?_
     rintro e w4 ⟨ho4, ⟨ng, dg, ex⟩, m4, bq, fq, rfl, hmm, hm4, hr4, hq4⟩
     have hres : (bq = true ∧ valS [] (k1 + 1) d (b.drop n) f = none) ∨ (bq = false ∧ n < m4 ∧ valS [] (k1 + 1) d (b.drop n) f = some (.mk 2 false ⟨ng, dg, ex⟩ [] [] [], b.drop m4, fq)) := by
      rw [HVU.out]
      rcases hq4 with ⟨h1, h2⟩ | ⟨h1, h2⟩
      ·exact .inl ⟨h1, h2⟩
      ·refine .inr ⟨h1, ?_, h2⟩
       have h3 := num_len h2
       rw [List.length_drop, List.length_drop] at h3
       omega
     have HQV := Lib.hid hres
     have HI4 := Lib.hid (HI3.out.only HG.out ho4 hr4)
     clear hq4 ho4 hr4 hres
     simp only [jval, J.kind, J.b, J.n, J.t]
     go_wp2_with (first | with_reducible refine stop_ret ?_ | refine wpList_store8 rfl _ _ rfl rfl HI4.out.res rfl _ _ _ _ _ _ _ _ rfl rfl rfl ?_)
     refine Lib.hid ?_
     obtain ⟨ho, hr, hj⟩ := HI4.out.val HG.out HGW.out (.int .i64 2) (.bool false) (.bool ng) (.string ⟨dg.toArray⟩) (.int .i64 ex) (.string ⟨#[]⟩) (.slice none 0 0) (.slice none 0 0) (JV.leaf w4 (fun _ => False) 2 false ⟨ng, dg, ex⟩ []) (fun _ h => h.elim)
     have hrow := set8_row HI4.out.res rfl (.int .i64 2) (.bool false) (.bool ng) (.string ⟨dg.toArray⟩) (.int .i64 ex) (.string ⟨#[]⟩) (.slice none 0 0) (.slice none 0 0)
     change bodyPost _ _ _ _ _ (set8 w4 g2 (.int .i64 2) (.bool false) (.bool ng) (.string ⟨dg.toArray⟩) (.int .i64 ex) (.string ⟨#[]⟩) (.slice none 0 0) (.slice none 0 0))
     generalize set8 w4 g2 (.int .i64 2) (.bool false) (.bool ng) (.string ⟨dg.toArray⟩) (.int .i64 ex) (.string ⟨#[]⟩) (.slice none 0 0) (.slice none 0 0) = W8 at *
     refine bodyPost_ret8 rfl rfl rfl hrow ?_
     exact ValTo.mk ho hr hj hm4 HQV.out
   by_cases hdg : digB c = true
   ·
    as_aux_lemma =>
     have h123 : ((c.toNat : Int) == 123) = false := by rw [beq_eq_false_iff_ne]; omega
     have h91 : ((c.toNat : Int) == 91) = false := by rw [beq_eq_false_iff_ne]; omega
     have h34 : ((c.toNat : Int) == 34) = false := by rw [beq_eq_false_iff_ne]; omega
     have h45 : ((c.toNat : Int) == 45) = false := by rw [beq_eq_false_iff_ne]; omega
     have hnb : c = 45 ∨ digB c = true := .inr hdg
     obtain ⟨d1, d2⟩ := (digB_iff c).1 hdg
     have d3 : (48 : Int) ≤ (c.toNat : Int) := by omega
     have d4 : (c.toNat : Int) ≤ 57 := by omega
     clear hdg
     have hvu := HVU.out
     rw [if_pos hnb] at hvu
     have HVU := Lib.hid hvu
     clear hvu hnb
     go_wp2_with fail
     refine (number_calls w3 HI3.out.rd hm (by omega)).mono ?_
     rintro e w4 ⟨ho4, ⟨ng, dg, ex⟩, m4, bq, fq, rfl, hmm, hm4, hr4, hq4⟩
     have hres : (bq = true ∧ valS [] (k1 + 1) d (b.drop n) f = none) ∨ (bq = false ∧ n < m4 ∧ valS [] (k1 + 1) d (b.drop n) f = some (.mk 2 false ⟨ng, dg, ex⟩ [] [] [], b.drop m4, fq)) := by
      rw [HVU.out]
      rcases hq4 with ⟨h1, h2⟩ | ⟨h1, h2⟩
      ·exact .inl ⟨h1, h2⟩
      ·refine .inr ⟨h1, ?_, h2⟩
       have h3 := num_len h2
       rw [List.length_drop, List.length_drop] at h3
       omega
     have HQV := Lib.hid hres
     have HI4 := Lib.hid (HI3.out.only HG.out ho4 hr4)
     clear hq4 ho4 hr4 hres
     simp only [jval, J.kind, J.b, J.n, J.t]
     go_wp2_with (first | with_reducible refine stop_ret ?_ | refine wpList_store8 rfl _ _ rfl rfl HI4.out.res rfl _ _ _ _ _ _ _ _ rfl rfl rfl ?_)
     refine Lib.hid ?_
     obtain ⟨ho, hr, hj⟩ := HI4.out.val HG.out HGW.out (.int .i64 2) (.bool false) (.bool ng) (.string ⟨dg.toArray⟩) (.int .i64 ex) (.string ⟨#[]⟩) (.slice none 0 0) (.slice none 0 0) (JV.leaf w4 (fun _ => False) 2 false ⟨ng, dg, ex⟩ []) (fun _ h => h.elim)
     have hrow := set8_row HI4.out.res rfl (.int .i64 2) (.bool false) (.bool ng) (.string ⟨dg.toArray⟩) (.int .i64 ex) (.string ⟨#[]⟩) (.slice none 0 0) (.slice none 0 0)
     change bodyPost _ _ _ _ _ (set8 w4 g2 (.int .i64 2) (.bool false) (.bool ng) (.string ⟨dg.toArray⟩) (.int .i64 ex) (.string ⟨#[]⟩) (.slice none 0 0) (.slice none 0 0))
     generalize set8 w4 g2 (.int .i64 2) (.bool false) (.bool ng) (.string ⟨dg.toArray⟩) (.int .i64 ex) (.string ⟨#[]⟩) (.slice none 0 0) (.slice none 0 0) = W8 at *
     refine bodyPost_ret8 rfl rfl rfl hrow ?_
     exact ValTo.mk ho hr hj hm4 HQV.out
   have h123 : ((c.toNat : Int) == 123) = false := by rw [beq_eq_false_iff_ne]; omega
   have h91 : ((c.toNat : Int) == 91) = false := by rw [beq_eq_false_iff_ne]; omega
   have h34 : ((c.toNat : Int) == 34) = false := by rw [beq_eq_false_iff_ne]; omega
   have h45 : ((c.toNat : Int) == 45) = false := by rw [beq_eq_false_iff_ne]; omega
   have hnb : ¬ (c = 45 ∨ digB c = true) := fun h => h.elim (fun h => e45 (by rw [h]; rfl)) hdg
   have hvu := HVU.out
   rw [if_neg hnb] at hvu
   have HVU := Lib.hid hvu
   have hcs : c.toNat < 48 ∨ 57 < c.toNat := by
    rcases Nat.lt_or_ge c.toNat 48 with h9 | h9
    ·exact .inl h9
    ·rcases Nat.lt_or_ge 57 c.toNat with h8 | h8
     ·exact .inr h8
     ·exact absurd ((digB_iff c).2 ⟨h9, h8⟩) hdg
   clear hvu hnb hdg
   rcases hcs with d1 | d1
   ·
    as_aux_lemma =>
     have d3 : decide ((48 : Int) ≤ (c.toNat : Int)) = false := by rw [decide_eq_false_iff_not]; omega
     go_wp2_with fail
     refine (takeR_calls w3 HI3.out.rd hm (by omega) wNull (by decide)).mono ?_
     rintro e w4 ⟨rfl, hrt, hot⟩
     cases ht : takeB b m wNull with
     | true =>
      as_aux_lemma =>
       have hml : m + 4 ≤ b.length := by
        rcases takeB_len ht with h9 | h9
        ·exact h9
        ·cases h9
       rw [ht] at hrt
       have HI4 : Hid (NumI w w4 R g2 b (m + 4) false f) := Lib.hid (HI3.out.only HG.out hot hrt)
       have HF : Hid (valS [] (k1 + 1) d (b.drop n) f = some (J.zero, b.drop (m + 4), f)) := by
        refine Lib.hid ?_
        rw [HVU.out, if_pos (show (b.drop m).take 4 = wNull from takeB_iff.1 ht), List.drop_drop]
       clear hrt hot ht HVU
       go_wp2_with (first | with_reducible refine stop_ret ?_ | refine wpList_store8 rfl _ _ rfl rfl HI4.out.res rfl _ _ _ _ _ _ _ _ rfl rfl rfl ?_)
       refine Lib.hid ?_
       obtain ⟨ho, hr, hj⟩ := HI4.out.val HG.out HGW.out (.int .i64 0) (.bool false) (.bool false) (.string ⟨#[]⟩) (.int .i64 0) (.string ⟨#[]⟩) (.slice none 0 0) (.slice none 0 0) (JV.leaf w4 (fun _ => False) 0 false Dec.zero []) (fun _ h => h.elim)
       have hrow := set8_row HI4.out.res rfl (.int .i64 0) (.bool false) (.bool false) (.string ⟨#[]⟩) (.int .i64 0) (.string ⟨#[]⟩) (.slice none 0 0) (.slice none 0 0)
       change bodyPost _ _ _ _ _ (set8 w4 g2 (.int .i64 0) (.bool false) (.bool false) (.string ⟨#[]⟩) (.int .i64 0) (.string ⟨#[]⟩) (.slice none 0 0) (.slice none 0 0))
       generalize set8 w4 g2 (.int .i64 0) (.bool false) (.bool false) (.string ⟨#[]⟩) (.int .i64 0) (.string ⟨#[]⟩) (.slice none 0 0) (.slice none 0 0) = W8 at *
       refine bodyPost_ret8 rfl rfl rfl hrow ?_
       exact ValTo.mk ho hr hj hml (.inr ⟨rfl, by omega, HF.out⟩)
     | false =>
      as_aux_lemma =>
       rw [ht] at hrt
       have HI4 : Hid (NumI w w4 R g2 b m false f) := Lib.hid (HI3.out.only HG.out hot hrt)
       have hne : ¬ (b.drop m).take 4 = wNull := fun h9 => by rw [(takeB_iff (s := wNull)).2 h9] at ht; cases ht
       have hvu := HVU.out
       rw [if_neg hne] at hvu
       have HVU := Lib.hid hvu
       clear hrt hot ht hne hvu
       go_wp2_with fail
       refine (takeR_calls w4 HI4.out.rd hm (by omega) wTrue (by decide)).mono ?_
       rintro e w5 ⟨rfl, hrt, hot⟩
       cases ht : takeB b m wTrue with
       | true =>
        as_aux_lemma =>
         have hml : m + 4 ≤ b.length := by
          rcases takeB_len ht with h9 | h9
          ·exact h9
          ·cases h9
         rw [ht] at hrt
         have HI5 : Hid (NumI w w5 R g2 b (m + 4) false f) := Lib.hid (HI4.out.only HG.out hot hrt)
         have HF : Hid (valS [] (k1 + 1) d (b.drop n) f = some (.mk 1 true Dec.zero [] [] [], b.drop (m + 4), f)) := by
          refine Lib.hid ?_
          rw [HVU.out, if_pos (show (b.drop m).take 4 = wTrue from takeB_iff.1 ht), List.drop_drop]
         clear hrt hot ht HVU
         go_wp2_with (first | with_reducible refine stop_ret ?_ | refine wpList_store8 rfl _ _ rfl rfl HI5.out.res rfl _ _ _ _ _ _ _ _ rfl rfl rfl ?_)
         refine Lib.hid ?_
         obtain ⟨ho, hr, hj⟩ := HI5.out.val HG.out HGW.out (.int .i64 1) (.bool true) (.bool false) (.string ⟨#[]⟩) (.int .i64 0) (.string ⟨#[]⟩) (.slice none 0 0) (.slice none 0 0) (JV.leaf w5 (fun _ => False) 1 true Dec.zero []) (fun _ h => h.elim)
         have hrow := set8_row HI5.out.res rfl (.int .i64 1) (.bool true) (.bool false) (.string ⟨#[]⟩) (.int .i64 0) (.string ⟨#[]⟩) (.slice none 0 0) (.slice none 0 0)
         change bodyPost _ _ _ _ _ (set8 w5 g2 (.int .i64 1) (.bool true) (.bool false) (.string ⟨#[]⟩) (.int .i64 0) (.string ⟨#[]⟩) (.slice none 0 0) (.slice none 0 0))
         generalize set8 w5 g2 (.int .i64 1) (.bool true) (.bool false) (.string ⟨#[]⟩) (.int .i64 0) (.string ⟨#[]⟩) (.slice none 0 0) (.slice none 0 0) = W8 at *
         refine bodyPost_ret8 rfl rfl rfl hrow ?_
         exact ValTo.mk ho hr hj hml (.inr ⟨rfl, by omega, HF.out⟩)
       | false =>
        as_aux_lemma =>
         rw [ht] at hrt
         have HI5 : Hid (NumI w w5 R g2 b m false f) := Lib.hid (HI4.out.only HG.out hot hrt)
         have hne : ¬ (b.drop m).take 4 = wTrue := fun h9 => by rw [(takeB_iff (s := wTrue)).2 h9] at ht; cases ht
         have hvu := HVU.out
         rw [if_neg hne] at hvu
         have HVU := Lib.hid hvu
         clear hrt hot ht hne hvu
         go_wp2_with fail
         refine (takeR_calls w5 HI5.out.rd hm (by omega) wFalse (by decide)).mono ?_
         rintro e w6 ⟨rfl, hrt, hot⟩
         cases ht : takeB b m wFalse with
         | true =>
          as_aux_lemma =>
           have hml : m + 5 ≤ b.length := by
            rcases takeB_len ht with h9 | h9
            ·exact h9
            ·cases h9
           rw [ht] at hrt
           have HI6 : Hid (NumI w w6 R g2 b (m + 5) false f) := Lib.hid (HI5.out.only HG.out hot hrt)
           have HF : Hid (valS [] (k1 + 1) d (b.drop n) f = some (.mk 1 false Dec.zero [] [] [], b.drop (m + 5), f)) := by
            refine Lib.hid ?_
            rw [HVU.out, if_pos (show (b.drop m).take 5 = wFalse from takeB_iff.1 ht), List.drop_drop]
           clear hrt hot ht HVU
           go_wp2_with (first | with_reducible refine stop_ret ?_ | refine wpList_store8 rfl _ _ rfl rfl HI6.out.res rfl _ _ _ _ _ _ _ _ rfl rfl rfl ?_)
           refine Lib.hid ?_
           obtain ⟨ho, hr, hj⟩ := HI6.out.val HG.out HGW.out (.int .i64 1) (.bool false) (.bool false) (.string ⟨#[]⟩) (.int .i64 0) (.string ⟨#[]⟩) (.slice none 0 0) (.slice none 0 0) (JV.leaf w6 (fun _ => False) 1 false Dec.zero []) (fun _ h => h.elim)
           have hrow := set8_row HI6.out.res rfl (.int .i64 1) (.bool false) (.bool false) (.string ⟨#[]⟩) (.int .i64 0) (.string ⟨#[]⟩) (.slice none 0 0) (.slice none 0 0)
           change bodyPost _ _ _ _ _ (set8 w6 g2 (.int .i64 1) (.bool false) (.bool false) (.string ⟨#[]⟩) (.int .i64 0) (.string ⟨#[]⟩) (.slice none 0 0) (.slice none 0 0))
           generalize set8 w6 g2 (.int .i64 1) (.bool false) (.bool false) (.string ⟨#[]⟩) (.int .i64 0) (.string ⟨#[]⟩) (.slice none 0 0) (.slice none 0 0) = W8 at *
           refine bodyPost_ret8 rfl rfl rfl hrow ?_
           exact ValTo.mk ho hr hj hml (.inr ⟨rfl, by omega, HF.out⟩)
         | false =>
          as_aux_lemma =>
           rw [ht] at hrt
           have HI6 : Hid (NumI w w6 R g2 b m false f) := Lib.hid (HI5.out.only HG.out hot hrt)
           have hne : ¬ (b.drop m).take 5 = wFalse := fun h9 => by rw [(takeB_iff (s := wFalse)).2 h9] at ht; cases ht
           have hvu := HVU.out
           rw [if_neg hne] at hvu
           have HVU := Lib.hid hvu
           clear hrt hot ht hne hvu
           have b2 := HI6.out.rd.cell 2 _ rfl
           have f2b := HI6.out.rd.free 2
           have HIb := Lib.hid (HI6.out.only HG.out ((OnlyR.refl R w6).set 2 (.bool true)) (HI6.out.rd.setBad true))
           go_upto_region 18 with fail
           clear b2 f2b
           go_wp2_with (first | with_reducible refine stop_ret ?_ | refine wpList_store8 rfl _ _ rfl rfl HIb.out.res rfl _ _ _ _ _ _ _ _ rfl rfl rfl ?_)
           refine Lib.hid ?_
           obtain ⟨ho, hr, hj⟩ := HIb.out.val HG.out HGW.out (.int .i64 0) (.bool false) (.bool false) (.string ⟨#[]⟩) (.int .i64 0) (.string ⟨#[]⟩) (.slice none 0 0) (.slice none 0 0) (JV.leaf (w6.setCell ⟨R, 2, none⟩ (.bool true)) (fun _ => False) 0 false Dec.zero []) (fun _ h => h.elim)
           have hrow := set8_row HIb.out.res rfl (.int .i64 0) (.bool false) (.bool false) (.string ⟨#[]⟩) (.int .i64 0) (.string ⟨#[]⟩) (.slice none 0 0) (.slice none 0 0)
           change bodyPost _ _ _ _ _ (set8 (w6.setCell ⟨R, 2, none⟩ (.bool true)) g2 (.int .i64 0) (.bool false) (.bool false) (.string ⟨#[]⟩) (.int .i64 0) (.string ⟨#[]⟩) (.slice none 0 0) (.slice none 0 0))
           generalize set8 (w6.setCell ⟨R, 2, none⟩ (.bool true)) g2 (.int .i64 0) (.bool false) (.bool false) (.string ⟨#[]⟩) (.int .i64 0) (.string ⟨#[]⟩) (.slice none 0 0) (.slice none 0 0) = W8 at *
           refine bodyPost_ret8 rfl rfl rfl hrow ?_
           exact ValTo.mk ho hr hj hm (.inl ⟨rfl, HVU.out⟩)
   ·
    as_aux_lemma =>
     have d3 : (48 : Int) ≤ (c.toNat : Int) := by omega
     have d4 : decide ((c.toNat : Int) ≤ 57) = false := by rw [decide_eq_false_iff_not]; omega
     go_wp2_with fail
     refine (takeR_calls w3 HI3.out.rd hm (by omega) wNull (by decide)).mono ?_
     rintro e w4 ⟨rfl, hrt, hot⟩
     cases ht : takeB b m wNull with
     | true =>
      as_aux_lemma =>
       have hml : m + 4 ≤ b.length := by
        rcases takeB_len ht with h9 | h9
        ·exact h9
        ·cases h9
       rw [ht] at hrt
       have HI4 : Hid (NumI w w4 R g2 b (m + 4) false f) := Lib.hid (HI3.out.only HG.out hot hrt)
       have HF : Hid (valS [] (k1 + 1) d (b.drop n) f = some (J.zero, b.drop (m + 4), f)) := by
        refine Lib.hid ?_
        rw [HVU.out, if_pos (show (b.drop m).take 4 = wNull from takeB_iff.1 ht), List.drop_drop]
       clear hrt hot ht HVU
       go_wp2_with (first | with_reducible refine stop_ret ?_ | refine wpList_store8 rfl _ _ rfl rfl HI4.out.res rfl _ _ _ _ _ _ _ _ rfl rfl rfl ?_)
       refine Lib.hid ?_
       obtain ⟨ho, hr, hj⟩ := HI4.out.val HG.out HGW.out (.int .i64 0) (.bool false) (.bool false) (.string ⟨#[]⟩) (.int .i64 0) (.string ⟨#[]⟩) (.slice none 0 0) (.slice none 0 0) (JV.leaf w4 (fun _ => False) 0 false Dec.zero []) (fun _ h => h.elim)
       have hrow := set8_row HI4.out.res rfl (.int .i64 0) (.bool false) (.bool false) (.string ⟨#[]⟩) (.int .i64 0) (.string ⟨#[]⟩) (.slice none 0 0) (.slice none 0 0)
       change bodyPost _ _ _ _ _ (set8 w4 g2 (.int .i64 0) (.bool false) (.bool false) (.string ⟨#[]⟩) (.int .i64 0) (.string ⟨#[]⟩) (.slice none 0 0) (.slice none 0 0))
       generalize set8 w4 g2 (.int .i64 0) (.bool false) (.bool false) (.string ⟨#[]⟩) (.int .i64 0) (.string ⟨#[]⟩) (.slice none 0 0) (.slice none 0 0) = W8 at *
       refine bodyPost_ret8 rfl rfl rfl hrow ?_
       exact ValTo.mk ho hr hj hml (.inr ⟨rfl, by omega, HF.out⟩)
     | false =>
      as_aux_lemma =>
       rw [ht] at hrt
       have HI4 : Hid (NumI w w4 R g2 b m false f) := Lib.hid (HI3.out.only HG.out hot hrt)
       have hne : ¬ (b.drop m).take 4 = wNull := fun h9 => by rw [(takeB_iff (s := wNull)).2 h9] at ht; cases ht
       have hvu := HVU.out
       rw [if_neg hne] at hvu
       have HVU := Lib.hid hvu
       clear hrt hot ht hne hvu
       go_wp2_with fail
       refine (takeR_calls w4 HI4.out.rd hm (by omega) wTrue (by decide)).mono ?_
       rintro e w5 ⟨rfl, hrt, hot⟩
       cases ht : takeB b m wTrue with
       | true =>
        as_aux_lemma =>
         have hml : m + 4 ≤ b.length := by
          rcases takeB_len ht with h9 | h9
          ·exact h9
          ·cases h9
         rw [ht] at hrt
         have HI5 : Hid (NumI w w5 R g2 b (m + 4) false f) := Lib.hid (HI4.out.only HG.out hot hrt)
         have HF : Hid (valS [] (k1 + 1) d (b.drop n) f = some (.mk 1 true Dec.zero [] [] [], b.drop (m + 4), f)) := by
          refine Lib.hid ?_
          rw [HVU.out, if_pos (show (b.drop m).take 4 = wTrue from takeB_iff.1 ht), List.drop_drop]
         clear hrt hot ht HVU
         go_wp2_with (first | with_reducible refine stop_ret ?_ | refine wpList_store8 rfl _ _ rfl rfl HI5.out.res rfl _ _ _ _ _ _ _ _ rfl rfl rfl ?_)
         refine Lib.hid ?_
         obtain ⟨ho, hr, hj⟩ := HI5.out.val HG.out HGW.out (.int .i64 1) (.bool true) (.bool false) (.string ⟨#[]⟩) (.int .i64 0) (.string ⟨#[]⟩) (.slice none 0 0) (.slice none 0 0) (JV.leaf w5 (fun _ => False) 1 true Dec.zero []) (fun _ h => h.elim)
         have hrow := set8_row HI5.out.res rfl (.int .i64 1) (.bool true) (.bool false) (.string ⟨#[]⟩) (.int .i64 0) (.string ⟨#[]⟩) (.slice none 0 0) (.slice none 0 0)
         change bodyPost _ _ _ _ _ (set8 w5 g2 (.int .i64 1) (.bool true) (.bool false) (.string ⟨#[]⟩) (.int .i64 0) (.string ⟨#[]⟩) (.slice none 0 0) (.slice none 0 0))
         generalize set8 w5 g2 (.int .i64 1) (.bool true) (.bool false) (.string ⟨#[]⟩) (.int .i64 0) (.string ⟨#[]⟩) (.slice none 0 0) (.slice none 0 0) = W8 at *
         refine bodyPost_ret8 rfl rfl rfl hrow ?_
         exact ValTo.mk ho hr hj hml (.inr ⟨rfl, by omega, HF.out⟩)
       | false =>
        as_aux_lemma =>
         rw [ht] at hrt
         have HI5 : Hid (NumI w w5 R g2 b m false f) := Lib.hid (HI4.out.only HG.out hot hrt)
         have hne : ¬ (b.drop m).take 4 = wTrue := fun h9 => by rw [(takeB_iff (s := wTrue)).2 h9] at ht; cases ht
         have hvu := HVU.out
         rw [if_neg hne] at hvu
         have HVU := Lib.hid hvu
         clear hrt hot ht hne hvu
         go_wp2_with fail
         refine (takeR_calls w5 HI5.out.rd hm (by omega) wFalse (by decide)).mono ?_
         rintro e w6 ⟨rfl, hrt, hot⟩
         cases ht : takeB b m wFalse with
         | true =>
          as_aux_lemma =>
           have hml : m + 5 ≤ b.length := by
            rcases takeB_len ht with h9 | h9
            ·exact h9
            ·cases h9
           rw [ht] at hrt
           have HI6 : Hid (NumI w w6 R g2 b (m + 5) false f) := Lib.hid (HI5.out.only HG.out hot hrt)
           have HF : Hid (valS [] (k1 + 1) d (b.drop n) f = some (.mk 1 false Dec.zero [] [] [], b.drop (m + 5), f)) := by
            refine Lib.hid ?_
            rw [HVU.out, if_pos (show (b.drop m).take 5 = wFalse from takeB_iff.1 ht), List.drop_drop]
           clear hrt hot ht HVU
           go_wp2_with (first | with_reducible refine stop_ret ?_ | refine wpList_store8 rfl _ _ rfl rfl HI6.out.res rfl _ _ _ _ _ _ _ _ rfl rfl rfl ?_)
           refine Lib.hid ?_
           obtain ⟨ho, hr, hj⟩ := HI6.out.val HG.out HGW.out (.int .i64 1) (.bool false) (.bool false) (.string ⟨#[]⟩) (.int .i64 0) (.string ⟨#[]⟩) (.slice none 0 0) (.slice none 0 0) (JV.leaf w6 (fun _ => False) 1 false Dec.zero []) (fun _ h => h.elim)
           have hrow := set8_row HI6.out.res rfl (.int .i64 1) (.bool false) (.bool false) (.string ⟨#[]⟩) (.int .i64 0) (.string ⟨#[]⟩) (.slice none 0 0) (.slice none 0 0)
           change bodyPost _ _ _ _ _ (set8 w6 g2 (.int .i64 1) (.bool false) (.bool false) (.string ⟨#[]⟩) (.int .i64 0) (.string ⟨#[]⟩) (.slice none 0 0) (.slice none 0 0))
           generalize set8 w6 g2 (.int .i64 1) (.bool false) (.bool false) (.string ⟨#[]⟩) (.int .i64 0) (.string ⟨#[]⟩) (.slice none 0 0) (.slice none 0 0) = W8 at *
           refine bodyPost_ret8 rfl rfl rfl hrow ?_
           exact ValTo.mk ho hr hj hml (.inr ⟨rfl, by omega, HF.out⟩)
         | false =>
          as_aux_lemma =>
           rw [ht] at hrt
           have HI6 : Hid (NumI w w6 R g2 b m false f) := Lib.hid (HI5.out.only HG.out hot hrt)
           have hne : ¬ (b.drop m).take 5 = wFalse := fun h9 => by rw [(takeB_iff (s := wFalse)).2 h9] at ht; cases ht
           have hvu := HVU.out
           rw [if_neg hne] at hvu
           have HVU := Lib.hid hvu
           clear hrt hot ht hne hvu
           have b2 := HI6.out.rd.cell 2 _ rfl
           have f2b := HI6.out.rd.free 2
           have HIb := Lib.hid (HI6.out.only HG.out ((OnlyR.refl R w6).set 2 (.bool true)) (HI6.out.rd.setBad true))
           go_upto_region 18 with fail
           clear b2 f2b
           go_wp2_with (first | with_reducible refine stop_ret ?_ | refine wpList_store8 rfl _ _ rfl rfl HIb.out.res rfl _ _ _ _ _ _ _ _ rfl rfl rfl ?_)
           refine Lib.hid ?_
           obtain ⟨ho, hr, hj⟩ := HIb.out.val HG.out HGW.out (.int .i64 0) (.bool false) (.bool false) (.string ⟨#[]⟩) (.int .i64 0) (.string ⟨#[]⟩) (.slice none 0 0) (.slice none 0 0) (JV.leaf (w6.setCell ⟨R, 2, none⟩ (.bool true)) (fun _ => False) 0 false Dec.zero []) (fun _ h => h.elim)
           have hrow := set8_row HIb.out.res rfl (.int .i64 0) (.bool false) (.bool false) (.string ⟨#[]⟩) (.int .i64 0) (.string ⟨#[]⟩) (.slice none 0 0) (.slice none 0 0)
           change bodyPost _ _ _ _ _ (set8 (w6.setCell ⟨R, 2, none⟩ (.bool true)) g2 (.int .i64 0) (.bool false) (.bool false) (.string ⟨#[]⟩) (.int .i64 0) (.string ⟨#[]⟩) (.slice none 0 0) (.slice none 0 0))
           generalize set8 (w6.setCell ⟨R, 2, none⟩ (.bool true)) g2 (.int .i64 0) (.bool false) (.bool false) (.string ⟨#[]⟩) (.int .i64 0) (.string ⟨#[]⟩) (.slice none 0 0) (.slice none 0 0) = W8 at *
           refine bodyPost_ret8 rfl rfl rfl hrow ?_
           exact ValTo.mk ho hr hj hm (.inl ⟨rfl, HVU.out⟩)
 ·
  as_aux_lemma =>
   have hcz : b.getD m 0 = 0 := by simp [List.getElem?_eq_none (show b.length ≤ m by omega)]
   have HVU : Hid (valS [] (k1 + 1) d (b.drop n) f = none) := Lib.hid (valS_end (by rw [HSK.out, List.drop_of_length_le (by omega)]))
   rw [hcz]
   have e0 : (((0 : UInt8).toNat : Nat) : Int) = 0 := rfl
   clear hcz hc HSK
   go_wp2_with fail
   refine (takeR_calls w3 HI3.out.rd hm (by omega) wNull (by decide)).mono ?_
   rintro e w4 ⟨rfl, hrt, hot⟩
   have ht : takeB b m wNull = false := takeB_end _ _ (by omega)
   rw [ht] at hrt ⊢
   have HI4 : Hid (NumI w w4 R g2 b m false f) := Lib.hid (HI3.out.only HG.out hot hrt)
   clear hrt hot ht
   go_wp2_with fail
   refine (takeR_calls w4 HI4.out.rd hm (by omega) wTrue (by decide)).mono ?_
   rintro e w5 ⟨rfl, hrt, hot⟩
   have ht : takeB b m wTrue = false := takeB_end _ _ (by omega)
   rw [ht] at hrt ⊢
   have HI5 : Hid (NumI w w5 R g2 b m false f) := Lib.hid (HI4.out.only HG.out hot hrt)
   clear hrt hot ht
   go_wp2_with fail
   refine (takeR_calls w5 HI5.out.rd hm (by omega) wFalse (by decide)).mono ?_
   rintro e w6 ⟨rfl, hrt, hot⟩
   have ht : takeB b m wFalse = false := takeB_end _ _ (by omega)
   rw [ht] at hrt ⊢
   have HI6 : Hid (NumI w w6 R g2 b m false f) := Lib.hid (HI5.out.only HG.out hot hrt)
   clear hrt hot ht
   have b2 := HI6.out.rd.cell 2 _ rfl
   have f2b := HI6.out.rd.free 2
   have HIb := Lib.hid (HI6.out.only HG.out ((OnlyR.refl R w6).set 2 (.bool true)) (HI6.out.rd.setBad true))
   go_upto_region 18 with fail
   clear b2 f2b
   go_wp2_with (first | with_reducible refine stop_ret ?_ | refine wpList_store8 rfl _ _ rfl rfl HIb.out.res rfl _ _ _ _ _ _ _ _ rfl rfl rfl ?_)
   refine Lib.hid ?_
   obtain ⟨ho, hr, hj⟩ := HIb.out.val HG.out HGW.out (.int .i64 0) (.bool false) (.bool false) (.string ⟨#[]⟩) (.int .i64 0) (.string ⟨#[]⟩) (.slice none 0 0) (.slice none 0 0) (JV.leaf (w6.setCell ⟨R, 2, none⟩ (.bool true)) (fun _ => False) 0 false Dec.zero []) (fun _ h => h.elim)
   have hrow := set8_row HIb.out.res rfl (.int .i64 0) (.bool false) (.bool false) (.string ⟨#[]⟩) (.int .i64 0) (.string ⟨#[]⟩) (.slice none 0 0) (.slice none 0 0)
   change bodyPost _ _ _ _ _ (set8 (w6.setCell ⟨R, 2, none⟩ (.bool true)) g2 (.int .i64 0) (.bool false) (.bool false) (.string ⟨#[]⟩) (.int .i64 0) (.string ⟨#[]⟩) (.slice none 0 0) (.slice none 0 0))
   generalize set8 (w6.setCell ⟨R, 2, none⟩ (.bool true)) g2 (.int .i64 0) (.bool false) (.bool false) (.string ⟨#[]⟩) (.int .i64 0) (.string ⟨#[]⟩) (.slice none 0 0) (.slice none 0 0) = W8 at *
   refine bodyPost_ret8 rfl rfl rfl hrow ?_
   exact ValTo.mk ho hr hj hm (.inl ⟨rfl, HVU.out⟩)
theorem value_all (k : Nat) : ValAll k := by
 induction k using Nat.strongRecOn with
 | _ k ih => exact value_step k ih
end Go.Proofs.YtfclfaidmipjpaaGreatDoor
