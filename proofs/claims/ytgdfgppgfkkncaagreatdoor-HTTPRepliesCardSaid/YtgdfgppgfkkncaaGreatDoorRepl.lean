/- The walk of HTTPReplies: over any world. Printed by gen_replies.py. -/
import Derived.Test.YtgdfgppgfkkncaaGreatDoorHtX
import Derived.Test.YtgdfgppgfkkncaaGreatDoorHtR
namespace Go.Proofs.YtgdfgppgfkkncaaGreatDoor
open Go.RowKit

/-- What the law's last statement reads. -/
structure RepS (W : World) (R : Nat) (bv m v8 : Value) (e : Int) (g off : Nat) (l r : List UInt8) : Prop where
  row : RowAt W R [bv, .int .i64 e]
  bvS : BytS W bv l
  mS : BytS W m l
  v8S : BytS W v8 r
  sp : W.cell? ⟨g, off + l.length, none⟩ = some (.int .u8 165)
  lt : g < W.heap.size
theorem RepS.below {W W' : World} {R : Nat} {bv m v8 : Value} {e : Int} {g off : Nat} {l r : List UInt8} (h : RepS W R bv m v8 e g off l r) (hb : Below W.heap.size W W') : RepS W' R bv m v8 e g off l r :=
  ⟨h.row.below hb, h.bvS.below hb, h.mS.below hb, h.v8S.below hb, (hb.cell (p := ⟨g, off + l.length, none⟩) h.lt).trans h.sp, Nat.lt_of_lt_of_le h.lt hb.size⟩
def RepF (R : Nat) (bv m v8 : Value) (e : Int) (g off : Nat) (l r : List UInt8) (W : World) : Prop :=
  W.cell? ⟨R, 0, none⟩ = some bv ∧ W.cell? ⟨R, 1, none⟩ = some (.int .i64 e) ∧ W.cell? ⟨g, off + l.length, none⟩ = some (.int .u8 165) ∧
  (convert 23 9 bv).run Tryz.prog W = .ok (.string ⟨l.toArray⟩) W ∧ (convert 23 9 m).run Tryz.prog W = .ok (.string ⟨l.toArray⟩) W ∧ (convert 23 9 v8).run Tryz.prog W = .ok (.string ⟨r.toArray⟩) W
theorem RepS.f {W : World} {R : Nat} {bv m v8 : Value} {e : Int} {g off : Nat} {l r : List UInt8} (h : RepS W R bv m v8 e g off l r) : RepF R bv m v8 e g off l r W :=
  ⟨h.row.cell 0 _ rfl, h.row.cell 1 _ rfl, h.sp, h.bvS.string, h.mS.string, h.v8S.string⟩
/-- A copy with a spare byte behind. -/
def SpareV (w : World) (B : Nat) (m : Value) (l : List UInt8) : Prop :=
  ∃ g off cap, m = .slice (some ⟨g, off, none⟩) l.length cap ∧ WaitV w B (.slice (some ⟨g, off, none⟩) (l.length + 1) cap) (l ++ [165])
theorem SpareV.byts {w : World} {B g off cap : Nat} {l : List UInt8} (h : WaitV w B (.slice (some ⟨g, off, none⟩) (l.length + 1) cap) (l ++ [165])) : BytS w (.slice (some ⟨g, off, none⟩) l.length cap) l ∧ w.cell? ⟨g, off + l.length, none⟩ = some (.int .u8 165) ∧ l.length + 1 ≤ cap ∧ B ≤ g ∧ g < w.heap.size := by
  have h1 : WaitV w B (.slice (some ⟨g, off, none⟩) (l ++ [165]).length cap) (l ++ [165]) := by rw [List.length_append]; exact h
  have h2 := WaitV.take h1 l.length (by simp)
  have h3 := WaitV.at h1 l.length (by simp)
  rw [List.take_left'] at h2
  · refine ⟨h2, by rw [h3]; simp, ?_, WaitV.lt h1 rfl⟩
    obtain ⟨p, c, he, hc, _⟩ := WaitV.form h1
    cases he
    simpa using hc
  · rfl
theorem WaitV.le {w : World} {B B' : Nat} {v : Value} {l : List UInt8} (h : WaitV w B v l) (hb : B' ≤ B) : WaitV w B' v l := by
  rcases h with h | ⟨g, off, cap, h1, h2, h3⟩
  · exact .inl h
  · exact .inr ⟨g, off, cap, h1, Nat.le_trans hb h2, h3⟩
theorem waitV_empty (w : World) (fz : Nat × Nat) : WaitV (w.alloc (.cells #[] 5 fz)) w.heap.size (.slice (some ⟨w.heap.size, 0, none⟩) 0 0) [] :=
  .inr ⟨w.heap.size, 0, 0, rfl, Nat.le_refl _, by simp, Nat.le_refl _, Nat.zero_le _, fun j hj => by simp at hj, fun j hj => by omega, fun j hj => by omega⟩
theorem byts_one (w : World) : BytS (w.alloc (.cells #[.int .u8 165] 5)) (.slice (some ⟨w.heap.size, 0, none⟩) 1 1) [165] := byts_lit w [165] 1 (0, 0) (by decide) (by decide)
/-- 'append(wait, x...)' as one operation. -/
theorem oper_append_wait {w : World} {o : Oper} {a : Act} {Q : Exit → Act → World → Prop} {K : Act → World → Prop} (s x : Operand)
    (ho : o.op = .call { callee := .builtin .append, args := #[s, x], argTypes := #[23, 23] })
    (B : Nat) (v xv : Value) (l m : List UInt8) (hs : a.eval s = v) (hv : WaitV w B v l) (hx : a.eval x = xv) (hxv : BytS w xv m) (hlen : l.length + m.length ≤ 100000000) (hB : B ≤ w.heap.size)
    (hK : ∀ v' w', WaitV w' B v' (l ++ m) → w.grownBy w' v.ownBlock → (∀ k, v'.ownBlock = some k → v.ownBlock = some k ∨ w.heap.size ≤ k) → K (a.put o.dst v') w') :
    Oper.wp Tryz.prog o a w K Q := by
  obtain ⟨v', w', hrun, h1, h2, h3⟩ := run_append_wait w o.type hv hxv hlen hB
  unfold Oper.wp
  simp [execOp, ho, resolve, invoke, builtin, hs, hx, hrun, Result.andThen]
  exact hK _ _ h1 h2 h3
set_option maxHeartbeats 8000000 in
set_option maxRecDepth 100000 in
theorem replies_calls (w : World) (he : Env w) (status : Int) (close : Bool) (bv : Value) (l : List UInt8) (e : Int) (hx : BytS w bv l) (h0 : -9223372036854775808 ≤ status) (h1 : status ≤ 9223372036854775807) :
    Calls Tryz.prog 7 #[.int .i64 status, .bool close, .agg #[bv, .int .i64 e]] w fun e w' => e = .returned (.bool true) ∧ Below w.heap.size w w' := by
  obtain ⟨pb, cb, rfl, hlb, hlm, _⟩ := hx.open
  have R1 := Lib.hid (RowAt.new w #[Value.slice pb l.length cb, Value.int IntKind.i64 e] 54)
  have hb1 : Below w.heap.size w (w.alloc (Obj.cells #[Value.slice pb l.length cb, Value.int IntKind.i64 e] 54)) := (Below.refl _ _).alloc (Nat.le_refl _) _
  have He := Lib.hid he
  have HX := Lib.hid (hx.below hb1)
  have HB1 := Lib.hid hb1
  have hml : maxLen = maxLen := rfl
  unfold maxLen at hlm
  clear hx hb1 he hml
  have c0 := R1.out.cell 0 _ rfl
  go_enter Tryz.func7, Tryz.ntmps7
  by_cases hbig : 40000 < l.length
  ·
    have hb2 : (40000 : Int) < l.length := by omega
    go_wp2_with fail
    refine (works_calls _ (He.out.below HB1.out)).mono ?_
    rintro e w2 ⟨rfl, hb⟩
    go_wp2_with fail
    go_ret
    exact ⟨rfl, HB1.out.trans (hb.mono HB1.out.size)⟩
  have hb2 : ¬ (40000 : Int) < l.length := by omega
  go_upto_region 3 with fail
  generalize w.alloc (Obj.cells #[Value.slice pb l.length cb, Value.int IntKind.i64 e] 54) = w1 at *
  go_cut [7] from 14 to 23 (fun m wc => SpareV wc w1.heap.size m l ∧ Below w1.heap.size w1 wc)
  case first =>
    have hbd : Below w1.heap.size w1 w1.drew := (Below.refl _ _).drew
    have hS0 : (fun W => W.cell? ⟨w.heap.size, 0, none⟩ = some (Value.slice pb l.length cb)) w1.drew := c0
    have HXd := Lib.hid (HX.out.drew)
    have R1d := Lib.hid (R1.out.drew)
    have HB1d := Lib.hid HB1.out.drew
    have hszd : w1.heap.size ≤ w1.drew.heap.size := Nat.le_refl _
    have hbdH := Lib.hid hbd
    clear hbd
    refine wp_region_held_drew (S := (fun W => W.cell? ⟨w.heap.size, 0, none⟩ = some (Value.slice pb l.length cb))) (by kernel_rfl) hS0 (fun hHeld0 => ?_)
    generalize w1.drew = wd at *
    refine held_take (i := 1) (v := ?_) rfl (by kernel_rfl) (by kernel_rfl) (by kernel_rfl) (fun _ _ _ h => h) (by rfl) (fun wq hSq => ?_) hHeld0 ?_
    rotate_left
    · (try dsimp only at hSq); go_simp; try with_reducible rfl
    simp only [Act.put, List.setIfInBounds_toArray, List.set_cons_zero, List.set_cons_succ]
    refine held_take (i := 2) (v := ?_) rfl (by kernel_rfl) (by kernel_rfl) (by kernel_rfl) (fun _ _ _ h => h) (by rfl) (fun wq hSq => ?_) hHeld0 ?_
    rotate_left
    · (try dsimp only at hSq); go_simp; try with_reducible rfl
    simp only [Act.put, List.setIfInBounds_toArray, List.set_cons_zero, List.set_cons_succ]
    refine held_take (i := 6) (v := ?_) rfl (by kernel_rfl) (by kernel_rfl) (by kernel_rfl) (fun _ _ _ h => h) (by rfl) (fun wq hSq => ?_) hHeld0 ?_
    rotate_left
    · (try dsimp only at hSq); go_simp; try with_reducible rfl
    simp only [Act.put, List.setIfInBounds_toArray, List.set_cons_zero, List.set_cons_succ]
    refine held_take (i := 7) (v := ?_) rfl (by kernel_rfl) (by kernel_rfl) (by kernel_rfl) (fun _ _ _ h => h) (by rfl) (fun wq hSq => ?_) hHeld0 ?_
    rotate_left
    · (try dsimp only at hSq); go_simp; try with_reducible rfl
    simp only [Act.put, List.setIfInBounds_toArray, List.set_cons_zero, List.set_cons_succ]
    refine held_take (i := 8) (v := ?_) rfl (by kernel_rfl) (by kernel_rfl) (by kernel_rfl) (fun _ _ _ h => h) (by rfl) (fun wq hSq => ?_) hHeld0 ?_
    rotate_left
    · (try dsimp only at hSq); go_simp; try with_reducible rfl
    simp only [Act.put, List.setIfInBounds_toArray, List.set_cons_zero, List.set_cons_succ]
    refine held_two (i := 0) (j := 4) (by kernel_rfl) rfl rfl (by rfl) (by rfl) (fun K hK => ?_) (fun K hK => ?_)
    ·
      go_simp
      have ha1 : Below wd.heap.size wd (wd.alloc (Obj.cells #[] 5)) := (Below.refl _ _).alloc (Nat.le_refl _) _
      have BE1 := Lib.hid (hbdH.out.trans (ha1.mono hszd))
      have BV1 := Lib.hid (HXd.out.below ha1)
      have RW1 := Lib.hid (R1d.out.below ha1)
      have V1 : Hid (WaitV (wd.alloc (Obj.cells #[] 5)) w1.heap.size (.slice (some ⟨wd.heap.size, 0, none⟩) 0 0) []) := WaitV.le (waitV_empty wd (0, 0)) hszd
      obtain ⟨e1, he1⟩ : ∃ x, wd.heap.size = x := ⟨_, rfl⟩
      have SZ1 : w1.heap.size ≤ (wd.alloc (Obj.cells #[] 5)).heap.size := by rw [World.size_alloc]; have := hszd; omega
      have hG1 : wd.heap.size + 1 = (wd.alloc (Obj.cells #[] 5)).heap.size := by rw [World.size_alloc]
      clear ha1
      generalize (wd.alloc (Obj.cells #[] 5)) = W1 at *
      rw [he1] at hG1 V1 ⊢
      refine hK.out _ _ (RW1.out.cell 0 _ rfl) (fun hHeld1 => ?_)
      clear hK K hHeld0
      refine held_two (i := 3) (j := 4) (by kernel_rfl) rfl rfl (by rfl) (by rfl) (fun K hK => ?_) (fun K hK => ?_)
      ·
        refine oper_append_wait _ _ rfl w1.heap.size _ _ _ _ rfl V1.out rfl BV1.out (by simp; omega) SZ1 (fun v2 W2 hv2 hg2 ho2 => ?_)
        have BE2 := Lib.hid (BE1.out.grown hg2 BE1.out.size (fun k hk => (V1.out.lt hk).1))
        have RW2 := Lib.hid (R1.out.below BE2.out)
        have BV2 := Lib.hid (HX.out.below BE2.out)
        have ON2 : Hid (∀ k, v2.ownBlock = some k → k = e1 ∨ W1.heap.size ≤ k) := fun k hk => (ho2 k hk).imp (fun h => by cases h; rfl) id
        have V2 := Lib.hid hv2
        have SZ2 : w1.heap.size ≤ W2.heap.size := BE2.out.size
        have szl2 : W1.heap.size ≤ W2.heap.size := hg2.size
        rw [List.nil_append] at V2
        clear hv2 hg2 ho2
        simp only [Act.put, List.setIfInBounds_toArray, List.set_cons_zero, List.set_cons_succ]
        refine hK.out _ _ (RW2.out.cell 0 _ rfl) (fun hHeld2 => ?_)
        clear hK K hHeld1
        refine held_step (i := 4) (by kernel_rfl) rfl (by rfl) (fun K hK => ?_)
        go_simp
        have ha3 : Below W2.heap.size W2 (W2.alloc (Obj.cells #[Value.int IntKind.u8 165] 5)) := (Below.refl _ _).alloc (Nat.le_refl _) _
        have BE3 := Lib.hid (BE2.out.trans (ha3.mono SZ2))
        have BV3 := Lib.hid (BV2.out.below ha3)
        have RW3 := Lib.hid (RW2.out.below ha3)
        have V3 := Lib.hid (V2.out.below ha3)
        have LT3 : Hid (BytS (W2.alloc (Obj.cells #[Value.int IntKind.u8 165] 5)) (.slice (some ⟨W2.heap.size, 0, none⟩) 1 1) [165]) := byts_one W2
        obtain ⟨g3, hg3⟩ : ∃ x, W2.heap.size = x := ⟨_, rfl⟩
        have SZ3 : w1.heap.size ≤ (W2.alloc (Obj.cells #[Value.int IntKind.u8 165] 5)).heap.size := by rw [World.size_alloc]; have := SZ2; omega
        have hG3 : W2.heap.size + 1 = (W2.alloc (Obj.cells #[Value.int IntKind.u8 165] 5)).heap.size := by rw [World.size_alloc]
        clear ha3
        generalize (W2.alloc (Obj.cells #[Value.int IntKind.u8 165] 5)) = W3 at *
        rw [hg3] at hG3 LT3 ⊢
        refine hK.out _ _ (RW3.out.cell 0 _ rfl) (fun hHeld3 => ?_)
        clear hK K hHeld2
        refine held_step (i := 5) (by kernel_rfl) rfl (by rfl) (fun K hK => ?_)
        refine oper_append_wait _ _ rfl w1.heap.size _ _ _ _ rfl V3.out rfl LT3.out (by simp; omega) SZ3 (fun v4 W4 hv4 hg4 ho4 => ?_)
        have BE4 := Lib.hid (BE3.out.grown hg4 BE3.out.size (fun k hk => (V3.out.lt hk).1))
        have RW4 := Lib.hid (R1.out.below BE4.out)
        obtain ⟨pz, cz, rfl, hcz, hpz⟩ := hv4.form
        obtain ⟨gz, oz, rfl⟩ : ∃ gz oz, pz = some ⟨gz, oz, none⟩ := by
          rcases hv4 with ⟨h9, h8⟩ | ⟨gz, oz, cz, h9, _⟩
          · simp at h8
          · cases h9; exact ⟨gz, oz, rfl⟩
        have VZ := Lib.hid hv4
        have hcz2 : l.length ≤ cz := by simp at hcz; omega
        simp only [List.length_append, List.length_singleton] at hcz ⊢
        clear hv4 hg4 ho4 hpz
        simp only [Act.put, List.setIfInBounds_toArray, List.set_cons_zero, List.set_cons_succ]
        refine hK.out _ _ (RW4.out.cell 0 _ rfl) (fun hHeld4 => ?_)
        clear hK K hHeld3
        refine held_take (i := 9) (v := ?_) rfl (by kernel_rfl) (by kernel_rfl) (by kernel_rfl) (fun _ _ _ h => h) (by rfl) (fun wq hSq => ?_) hHeld4 ?_
        rotate_left
        · (try dsimp only at hSq); go_simp; try with_reducible rfl
        simp only [Act.put, List.setIfInBounds_toArray, List.set_cons_zero, List.set_cons_succ]
        refine held_take (i := 10) (v := ?_) rfl (by kernel_rfl) (by kernel_rfl) (by kernel_rfl) (fun _ _ _ h => h) (by rfl) (fun wq hSq => ?_) hHeld4 ?_
        rotate_left
        · (try dsimp only at hSq); go_simp; try with_reducible rfl
        simp only [Act.put, List.setIfInBounds_toArray, List.set_cons_zero, List.set_cons_succ]
        refine wpAnyH_done (by kernel_rfl) ?_ _
        clear hHeld4
        go_wp2_with fail
        go_meet
        exact ⟨⟨gz, oz, cz, rfl, by have h9 := VZ.out; rw [List.length_append] at h9; exact h9⟩, BE4.out⟩
      ·
        go_simp
        have ha5 : Below W1.heap.size W1 (W1.alloc (Obj.cells #[Value.int IntKind.u8 165] 5)) := (Below.refl _ _).alloc (Nat.le_refl _) _
        have BE5 := Lib.hid (BE1.out.trans (ha5.mono SZ1))
        have BV5 := Lib.hid (BV1.out.below ha5)
        have RW5 := Lib.hid (RW1.out.below ha5)
        have V5 := Lib.hid (V1.out.below ha5)
        have LT5 : Hid (BytS (W1.alloc (Obj.cells #[Value.int IntKind.u8 165] 5)) (.slice (some ⟨W1.heap.size, 0, none⟩) 1 1) [165]) := byts_one W1
        obtain ⟨g5, hg5⟩ : ∃ x, W1.heap.size = x := ⟨_, rfl⟩
        have SZ5 : w1.heap.size ≤ (W1.alloc (Obj.cells #[Value.int IntKind.u8 165] 5)).heap.size := by rw [World.size_alloc]; have := SZ1; omega
        have hG5 : W1.heap.size + 1 = (W1.alloc (Obj.cells #[Value.int IntKind.u8 165] 5)).heap.size := by rw [World.size_alloc]
        clear ha5
        generalize (W1.alloc (Obj.cells #[Value.int IntKind.u8 165] 5)) = W5 at *
        rw [hg5] at hG5 LT5 ⊢
        refine hK.out _ _ (RW5.out.cell 0 _ rfl) (fun hHeld2 => ?_)
        clear hK K hHeld1
        refine held_step (i := 3) (by kernel_rfl) rfl (by rfl) (fun K hK => ?_)
        refine oper_append_wait _ _ rfl w1.heap.size _ _ _ _ rfl V5.out rfl BV5.out (by simp; omega) SZ5 (fun v6 W6 hv6 hg6 ho6 => ?_)
        have BE6 := Lib.hid (BE5.out.grown hg6 BE5.out.size (fun k hk => (V5.out.lt hk).1))
        have RW6 := Lib.hid (R1.out.below BE6.out)
        have BV6 := Lib.hid (HX.out.below BE6.out)
        have LT6 := Lib.hid (LT5.out.apart (Apart.ofGrown (S := fun k => some k = some e1) hg6 (fun k hk => hk.symm)) (fun k hk h => by have h1 : g5 = k := Option.some.inj hk; have h2 : k = e1 := Option.some.inj h; omega))
        have ON6 : Hid (∀ k, v6.ownBlock = some k → k = e1 ∨ W5.heap.size ≤ k) := fun k hk => (ho6 k hk).imp (fun h => by cases h; rfl) id
        have V6 := Lib.hid hv6
        have SZ6 : w1.heap.size ≤ W6.heap.size := BE6.out.size
        have szl6 : W5.heap.size ≤ W6.heap.size := hg6.size
        rw [List.nil_append] at V6
        clear hv6 hg6 ho6
        simp only [Act.put, List.setIfInBounds_toArray, List.set_cons_zero, List.set_cons_succ]
        refine hK.out _ _ (RW6.out.cell 0 _ rfl) (fun hHeld3 => ?_)
        clear hK K hHeld2
        refine held_step (i := 5) (by kernel_rfl) rfl (by rfl) (fun K hK => ?_)
        refine oper_append_wait _ _ rfl w1.heap.size _ _ _ _ rfl V6.out rfl LT6.out (by simp; omega) SZ6 (fun v7 W7 hv7 hg7 ho7 => ?_)
        have BE7 := Lib.hid (BE6.out.grown hg7 BE6.out.size (fun k hk => (V6.out.lt hk).1))
        have RW7 := Lib.hid (R1.out.below BE7.out)
        obtain ⟨pz, cz, rfl, hcz, hpz⟩ := hv7.form
        obtain ⟨gz, oz, rfl⟩ : ∃ gz oz, pz = some ⟨gz, oz, none⟩ := by
          rcases hv7 with ⟨h9, h8⟩ | ⟨gz, oz, cz, h9, _⟩
          · simp at h8
          · cases h9; exact ⟨gz, oz, rfl⟩
        have VZ := Lib.hid hv7
        have hcz2 : l.length ≤ cz := by simp at hcz; omega
        simp only [List.length_append, List.length_singleton] at hcz ⊢
        clear hv7 hg7 ho7 hpz
        simp only [Act.put, List.setIfInBounds_toArray, List.set_cons_zero, List.set_cons_succ]
        refine hK.out _ _ (RW7.out.cell 0 _ rfl) (fun hHeld4 => ?_)
        clear hK K hHeld3
        refine held_take (i := 9) (v := ?_) rfl (by kernel_rfl) (by kernel_rfl) (by kernel_rfl) (fun _ _ _ h => h) (by rfl) (fun wq hSq => ?_) hHeld4 ?_
        rotate_left
        · (try dsimp only at hSq); go_simp; try with_reducible rfl
        simp only [Act.put, List.setIfInBounds_toArray, List.set_cons_zero, List.set_cons_succ]
        refine held_take (i := 10) (v := ?_) rfl (by kernel_rfl) (by kernel_rfl) (by kernel_rfl) (fun _ _ _ h => h) (by rfl) (fun wq hSq => ?_) hHeld4 ?_
        rotate_left
        · (try dsimp only at hSq); go_simp; try with_reducible rfl
        simp only [Act.put, List.setIfInBounds_toArray, List.set_cons_zero, List.set_cons_succ]
        refine wpAnyH_done (by kernel_rfl) ?_ _
        clear hHeld4
        go_wp2_with fail
        go_meet
        exact ⟨⟨gz, oz, cz, rfl, by have h9 := VZ.out; rw [List.length_append] at h9; exact h9⟩, BE7.out⟩
    ·
      go_simp
      have ha8 : Below wd.heap.size wd (wd.alloc (Obj.cells #[Value.int IntKind.u8 165] 5)) := (Below.refl _ _).alloc (Nat.le_refl _) _
      have BE8 := Lib.hid (hbdH.out.trans (ha8.mono hszd))
      have BV8 := Lib.hid (HXd.out.below ha8)
      have RW8 := Lib.hid (R1d.out.below ha8)
      have LT8 : Hid (BytS (wd.alloc (Obj.cells #[Value.int IntKind.u8 165] 5)) (.slice (some ⟨wd.heap.size, 0, none⟩) 1 1) [165]) := byts_one wd
      obtain ⟨g8, hg8⟩ : ∃ x, wd.heap.size = x := ⟨_, rfl⟩
      have SZ8 : w1.heap.size ≤ (wd.alloc (Obj.cells #[Value.int IntKind.u8 165] 5)).heap.size := by rw [World.size_alloc]; have := hszd; omega
      have hG8 : wd.heap.size + 1 = (wd.alloc (Obj.cells #[Value.int IntKind.u8 165] 5)).heap.size := by rw [World.size_alloc]
      clear ha8
      generalize (wd.alloc (Obj.cells #[Value.int IntKind.u8 165] 5)) = W8 at *
      rw [hg8] at hG8 LT8 ⊢
      refine hK.out _ _ (RW8.out.cell 0 _ rfl) (fun hHeld1 => ?_)
      clear hK K hHeld0
      refine held_step (i := 0) (by kernel_rfl) rfl (by rfl) (fun K hK => ?_)
      go_simp
      have ha9 : Below W8.heap.size W8 (W8.alloc (Obj.cells #[] 5)) := (Below.refl _ _).alloc (Nat.le_refl _) _
      have BE9 := Lib.hid (BE8.out.trans (ha9.mono SZ8))
      have BV9 := Lib.hid (BV8.out.below ha9)
      have RW9 := Lib.hid (RW8.out.below ha9)
      have LT9 := Lib.hid (LT8.out.below ha9)
      have V9 : Hid (WaitV (W8.alloc (Obj.cells #[] 5)) w1.heap.size (.slice (some ⟨W8.heap.size, 0, none⟩) 0 0) []) := WaitV.le (waitV_empty W8 (0, 0)) SZ8
      obtain ⟨e9, he9⟩ : ∃ x, W8.heap.size = x := ⟨_, rfl⟩
      have NE9 : g8 < e9 := by omega
      have SZ9 : w1.heap.size ≤ (W8.alloc (Obj.cells #[] 5)).heap.size := by rw [World.size_alloc]; have := SZ8; omega
      have hG9 : W8.heap.size + 1 = (W8.alloc (Obj.cells #[] 5)).heap.size := by rw [World.size_alloc]
      clear ha9
      generalize (W8.alloc (Obj.cells #[] 5)) = W9 at *
      rw [he9] at hG9 V9 ⊢
      refine hK.out _ _ (RW9.out.cell 0 _ rfl) (fun hHeld2 => ?_)
      clear hK K hHeld1
      refine held_step (i := 3) (by kernel_rfl) rfl (by rfl) (fun K hK => ?_)
      refine oper_append_wait _ _ rfl w1.heap.size _ _ _ _ rfl V9.out rfl BV9.out (by simp; omega) SZ9 (fun v10 W10 hv10 hg10 ho10 => ?_)
      have BE10 := Lib.hid (BE9.out.grown hg10 BE9.out.size (fun k hk => (V9.out.lt hk).1))
      have RW10 := Lib.hid (R1.out.below BE10.out)
      have BV10 := Lib.hid (HX.out.below BE10.out)
      have LT10 := Lib.hid (LT9.out.apart (Apart.ofGrown (S := fun k => some k = some e9) hg10 (fun k hk => hk.symm)) (fun k hk h => by have h1 : g8 = k := Option.some.inj hk; have h2 : k = e9 := Option.some.inj h; omega))
      have ON10 : Hid (∀ k, v10.ownBlock = some k → k = e9 ∨ W9.heap.size ≤ k) := fun k hk => (ho10 k hk).imp (fun h => by cases h; rfl) id
      have V10 := Lib.hid hv10
      have SZ10 : w1.heap.size ≤ W10.heap.size := BE10.out.size
      have szl10 : W9.heap.size ≤ W10.heap.size := hg10.size
      rw [List.nil_append] at V10
      clear hv10 hg10 ho10
      simp only [Act.put, List.setIfInBounds_toArray, List.set_cons_zero, List.set_cons_succ]
      refine hK.out _ _ (RW10.out.cell 0 _ rfl) (fun hHeld3 => ?_)
      clear hK K hHeld2
      refine held_step (i := 5) (by kernel_rfl) rfl (by rfl) (fun K hK => ?_)
      refine oper_append_wait _ _ rfl w1.heap.size _ _ _ _ rfl V10.out rfl LT10.out (by simp; omega) SZ10 (fun v11 W11 hv11 hg11 ho11 => ?_)
      have BE11 := Lib.hid (BE10.out.grown hg11 BE10.out.size (fun k hk => (V10.out.lt hk).1))
      have RW11 := Lib.hid (R1.out.below BE11.out)
      obtain ⟨pz, cz, rfl, hcz, hpz⟩ := hv11.form
      obtain ⟨gz, oz, rfl⟩ : ∃ gz oz, pz = some ⟨gz, oz, none⟩ := by
        rcases hv11 with ⟨h9, h8⟩ | ⟨gz, oz, cz, h9, _⟩
        · simp at h8
        · cases h9; exact ⟨gz, oz, rfl⟩
      have VZ := Lib.hid hv11
      have hcz2 : l.length ≤ cz := by simp at hcz; omega
      simp only [List.length_append, List.length_singleton] at hcz ⊢
      clear hv11 hg11 ho11 hpz
      simp only [Act.put, List.setIfInBounds_toArray, List.set_cons_zero, List.set_cons_succ]
      refine hK.out _ _ (RW11.out.cell 0 _ rfl) (fun hHeld4 => ?_)
      clear hK K hHeld3
      refine held_take (i := 9) (v := ?_) rfl (by kernel_rfl) (by kernel_rfl) (by kernel_rfl) (fun _ _ _ h => h) (by rfl) (fun wq hSq => ?_) hHeld4 ?_
      rotate_left
      · (try dsimp only at hSq); go_simp; try with_reducible rfl
      simp only [Act.put, List.setIfInBounds_toArray, List.set_cons_zero, List.set_cons_succ]
      refine held_take (i := 10) (v := ?_) rfl (by kernel_rfl) (by kernel_rfl) (by kernel_rfl) (fun _ _ _ h => h) (by rfl) (fun wq hSq => ?_) hHeld4 ?_
      rotate_left
      · (try dsimp only at hSq); go_simp; try with_reducible rfl
      simp only [Act.put, List.setIfInBounds_toArray, List.set_cons_zero, List.set_cons_succ]
      refine wpAnyH_done (by kernel_rfl) ?_ _
      clear hHeld4
      go_wp2_with fail
      go_meet
      exact ⟨⟨gz, oz, cz, rfl, by have h9 := VZ.out; rw [List.length_append] at h9; exact h9⟩, BE11.out⟩
  case rest =>
    obtain ⟨⟨gz, oz, cz, rfl, hwz⟩, hbz⟩ := hcut
    obtain ⟨hmS, hsp, hcz, hgB, hglt⟩ := SpareV.byts hwz
    have hb2z := HB1.out.trans (hbz.mono HB1.out.size)
    have Hbz := Lib.hid hb2z
    have HM := Lib.hid hmS
    have HSP := Lib.hid hsp
    have Rz := Lib.hid (R1.out.below hbz)
    have HXz := Lib.hid (HX.out.below hbz)
    have hll : l.length ≤ 40000 := by omega
    have Hglt := Lib.hid hglt
    clear hwz hbz hmS hsp hb2z hgB hglt
    go_wp2_with fail
    refine (response_calls _ (He.out.below Hbz.out) status close _ l HM.out (by omega) h0 h1).mono ?_
    rintro e2 w4 ⟨⟨v8, rfl, hv8⟩, hb8⟩
    obtain ⟨rr, hrr⟩ : ∃ x, responseS (stS status) l.length close l = x := ⟨_, rfl⟩
    rw [hrr] at hv8
    have Hrr := Lib.hid hrr
    have HS := Lib.hid (show RepS w4 w.heap.size (.slice pb l.length cb) (.slice (some ⟨gz, oz, none⟩) l.length cz) v8 e gz oz l rr from ⟨Rz.out.below hb8, HXz.out.below hb8, HM.out.below hb8, hv8, (hb8.cell (p := ⟨gz, oz + l.length, none⟩) Hglt.out).trans HSP.out, Nat.lt_of_lt_of_le Hglt.out hb8.size⟩)
    have HB := Lib.hid (Hbz.out.trans (hb8.mono Hbz.out.size))
    clear hrr hv8 hb8 Rz HXz HM Hglt c0
    go_upto_region 5 with fail
    have HSd := Lib.hid (HS.out.below (Below.refl _ _).drew)
    have HBd := Lib.hid HB.out.drew
    have hS0 : (fun W => W.cell? ⟨w.heap.size, 0, none⟩ = some (Value.slice pb l.length cb) ∧ W.cell? ⟨w.heap.size, 1, none⟩ = some (.int .i64 e) ∧ W.cell? ⟨gz, oz + l.length, none⟩ = some (.int .u8 165) ∧ (convert 23 9 (Value.slice pb l.length cb)).run Tryz.prog W = .ok (.string ⟨l.toArray⟩) W ∧ (convert 23 9 (.slice (some ⟨gz, oz, none⟩) l.length cz)).run Tryz.prog W = .ok (.string ⟨l.toArray⟩) W ∧ (convert 23 9 v8).run Tryz.prog W = .ok (.string ⟨rr.toArray⟩) W) w4.drew := HSd.out.f
    obtain ⟨n1, hn1⟩ : ∃ n1, l.length + 1 = n1 := ⟨_, rfl⟩
    have hwr : IntKind.i64.wrap ((l.length : Int) + 1) = (n1 : Int) := by rw [← hn1]; exact IntWalk.i64_in _ (by omega)
    have hn2 : n1 ≤ cz := by omega
    have hn3 : l.length < n1 := by omega
    clear hn1 hcz
    refine wp_region_held_drew (S := (fun W => W.cell? ⟨w.heap.size, 0, none⟩ = some (Value.slice pb l.length cb) ∧ W.cell? ⟨w.heap.size, 1, none⟩ = some (.int .i64 e) ∧ W.cell? ⟨gz, oz + l.length, none⟩ = some (.int .u8 165) ∧ (convert 23 9 (Value.slice pb l.length cb)).run Tryz.prog W = .ok (.string ⟨l.toArray⟩) W ∧ (convert 23 9 (.slice (some ⟨gz, oz, none⟩) l.length cz)).run Tryz.prog W = .ok (.string ⟨l.toArray⟩) W ∧ (convert 23 9 v8).run Tryz.prog W = .ok (.string ⟨rr.toArray⟩) W)) (by kernel_rfl) hS0 (fun hHeld0 => ?_)
    generalize w4.drew = wd at *
    refine held_take (i := 0) (v := ?_) rfl (by kernel_rfl) (by kernel_rfl) (by kernel_rfl) (fun _ _ _ h => h) (by rfl) (fun wq hSq => ?_) hHeld0 ?_
    rotate_left
    · (try dsimp only at hSq); go_simp; try with_reducible rfl
    simp only [Act.put, List.setIfInBounds_toArray, List.set_cons_zero, List.set_cons_succ]
    refine held_take (i := 1) (v := ?_) rfl (by kernel_rfl) (by kernel_rfl) (by kernel_rfl) (fun _ _ _ h => h) (by rfl) (fun wq hSq => ?_) hHeld0 ?_
    rotate_left
    · (try dsimp only at hSq); go_simp; try with_reducible rfl
    simp only [Act.put, List.setIfInBounds_toArray, List.set_cons_zero, List.set_cons_succ]
    refine held_take (i := 2) (v := ?_) rfl (by kernel_rfl) (by kernel_rfl) (by kernel_rfl) (fun _ _ _ h => h) (by rfl) (fun wq hSq => ?_) hHeld0 ?_
    rotate_left
    · (try dsimp only at hSq); go_simp; try with_reducible rfl
    simp only [Act.put, List.setIfInBounds_toArray, List.set_cons_zero, List.set_cons_succ]
    refine held_take (i := 3) (v := ?_) rfl (by kernel_rfl) (by kernel_rfl) (by kernel_rfl) (fun _ _ _ h => h) (by rfl) (fun wq hSq => ?_) hHeld0 ?_
    rotate_left
    · (try dsimp only at hSq); go_simp; try with_reducible rfl
    simp only [Act.put, List.setIfInBounds_toArray, List.set_cons_zero, List.set_cons_succ]
    refine held_take (i := 4) (v := ?_) rfl (by kernel_rfl) (by kernel_rfl) (by kernel_rfl) (fun _ _ _ h => h) (by rfl) (fun wq hSq => ?_) hHeld0 ?_
    rotate_left
    · (try dsimp only at hSq); go_simp; try with_reducible rfl
    simp only [Act.put, List.setIfInBounds_toArray, List.set_cons_zero, List.set_cons_succ]
    refine held_take (i := 5) (v := ?_) rfl (by kernel_rfl) (by kernel_rfl) (by kernel_rfl) (fun _ _ _ h => h) (by rfl) (fun wq hSq => ?_) hHeld0 ?_
    rotate_left
    · (try dsimp only at hSq); go_simp; try with_reducible rfl
    simp only [Act.put, List.setIfInBounds_toArray, List.set_cons_zero, List.set_cons_succ]
    refine held_step (i := 6) (by kernel_rfl) rfl (by rfl) (fun K hK => ?_)
    go_simp
    refine (responseR_calls wd (He.out.below HBd.out) status close _ l HSd.out.bvS (by omega) h0 h1).mono ?_
    rintro e9 x1 ⟨rfl, hy1⟩
    have K1 := Lib.hid (HSd.out.below hy1)
    have L1 := Lib.hid (HBd.out.trans (hy1.mono HBd.out.size))
    clear hy1
    dsimp only
    rw [Hrr.out]
    refine hK.out _ _ K1.out.f (fun hHeld1 => ?_)
    clear hK K hHeld0
    refine held_take (i := 7) (v := ?_) rfl (by kernel_rfl) (by kernel_rfl) (by kernel_rfl) (fun _ _ _ h => h) (by rfl) (fun wq hSq => ?_) hHeld1 ?_
    rotate_left
    · (try dsimp only at hSq); go_simp; try with_reducible rfl
    simp only [Act.put, List.setIfInBounds_toArray, List.set_cons_zero, List.set_cons_succ]
    refine held_take (i := 8) (v := ?_) rfl (by kernel_rfl) (by kernel_rfl) (by kernel_rfl) (fun _ _ _ h => h) (by rfl) (fun wq hSq => ?_) hHeld1 ?_
    rotate_left
    · (try dsimp only at hSq); go_simp; try with_reducible rfl
    simp only [Act.put, List.setIfInBounds_toArray, List.set_cons_zero, List.set_cons_succ]
    refine held_take (i := 9) (v := ?_) rfl (by kernel_rfl) (by kernel_rfl) (by kernel_rfl) (fun _ _ _ h => h) (by rfl) (fun wq hSq => ?_) hHeld1 ?_
    rotate_left
    · (try dsimp only at hSq); go_simp; try with_reducible rfl
    simp only [Act.put, List.setIfInBounds_toArray, List.set_cons_zero, List.set_cons_succ]
    refine held_take (i := 10) (v := ?_) rfl (by kernel_rfl) (by kernel_rfl) (by kernel_rfl) (fun _ _ _ h => h) (by rfl) (fun wq hSq => ?_) hHeld1 ?_
    rotate_left
    · (try dsimp only at hSq); go_simp; try with_reducible rfl
    simp only [Act.put, List.setIfInBounds_toArray, List.set_cons_zero, List.set_cons_succ]
    refine held_take (i := 11) (v := ?_) rfl (by kernel_rfl) (by kernel_rfl) (by kernel_rfl) (fun _ _ _ h => h) (by rfl) (fun wq hSq => ?_) hHeld1 ?_
    rotate_left
    · (try dsimp only at hSq); go_simp; try with_reducible rfl
    simp only [Act.put, List.setIfInBounds_toArray, List.set_cons_zero, List.set_cons_succ]
    refine held_take (i := 12) (v := ?_) rfl (by kernel_rfl) (by kernel_rfl) (by kernel_rfl) (fun _ _ _ h => h) (by rfl) (fun wq hSq => ?_) hHeld1 ?_
    rotate_left
    · (try dsimp only at hSq); go_simp; try with_reducible rfl
    simp only [Act.put, List.setIfInBounds_toArray, List.set_cons_zero, List.set_cons_succ]
    refine held_take (i := 13) (v := ?_) rfl (by kernel_rfl) (by kernel_rfl) (by kernel_rfl) (fun _ _ _ h => h) (by rfl) (fun wq hSq => ?_) hHeld1 ?_
    rotate_left
    · (try dsimp only at hSq); go_simp; try with_reducible rfl
    simp only [Act.put, List.setIfInBounds_toArray, List.set_cons_zero, List.set_cons_succ]
    refine held_take (i := 14) (v := ?_) rfl (by kernel_rfl) (by kernel_rfl) (by kernel_rfl) (fun _ _ _ h => h) (by rfl) (fun wq hSq => ?_) hHeld1 ?_
    rotate_left
    · (try dsimp only at hSq); go_simp; try with_reducible rfl
    simp only [Act.put, List.setIfInBounds_toArray, List.set_cons_zero, List.set_cons_succ]
    refine held_take (i := 15) (v := ?_) rfl (by kernel_rfl) (by kernel_rfl) (by kernel_rfl) (fun _ _ _ h => h) (by rfl) (fun wq hSq => ?_) hHeld1 ?_
    rotate_left
    · (try dsimp only at hSq); go_simp; try with_reducible rfl
    simp only [Act.put, List.setIfInBounds_toArray, List.set_cons_zero, List.set_cons_succ]
    refine held_take (i := 16) (v := ?_) rfl (by kernel_rfl) (by kernel_rfl) (by kernel_rfl) (fun _ _ _ h => h) (by rfl) (fun wq hSq => ?_) hHeld1 ?_
    rotate_left
    · (try dsimp only at hSq); go_simp; try with_reducible rfl
    simp only [Act.put, List.setIfInBounds_toArray, List.set_cons_zero, List.set_cons_succ]
    refine held_take (i := 17) (v := ?_) rfl (by kernel_rfl) (by kernel_rfl) (by kernel_rfl) (fun _ _ _ h => h) (by rfl) (fun wq hSq => ?_) hHeld1 ?_
    rotate_left
    · (try dsimp only at hSq); go_simp; try with_reducible rfl
    simp only [Act.put, List.setIfInBounds_toArray, List.set_cons_zero, List.set_cons_succ]
    refine held_take (i := 18) (v := ?_) rfl (by kernel_rfl) (by kernel_rfl) (by kernel_rfl) (fun _ _ _ h => h) (by rfl) (fun wq hSq => ?_) hHeld1 ?_
    rotate_left
    · (try dsimp only at hSq); go_simp; try with_reducible rfl
    simp only [Act.put, List.setIfInBounds_toArray, List.set_cons_zero, List.set_cons_succ]
    refine held_take (i := 19) (v := ?_) rfl (by kernel_rfl) (by kernel_rfl) (by kernel_rfl) (fun _ _ _ h => h) (by rfl) (fun wq hSq => ?_) hHeld1 ?_
    rotate_left
    · (try dsimp only at hSq); go_simp; try with_reducible rfl
    simp only [Act.put, List.setIfInBounds_toArray, List.set_cons_zero, List.set_cons_succ]
    refine held_take (i := 20) (v := ?_) rfl (by kernel_rfl) (by kernel_rfl) (by kernel_rfl) (fun _ _ _ h => h) (by rfl) (fun wq hSq => ?_) hHeld1 ?_
    rotate_left
    · (try dsimp only at hSq); go_simp; try with_reducible rfl
    simp only [Act.put, List.setIfInBounds_toArray, List.set_cons_zero, List.set_cons_succ]
    refine held_take (i := 21) (v := ?_) rfl (by kernel_rfl) (by kernel_rfl) (by kernel_rfl) (fun _ _ _ h => h) (by rfl) (fun wq hSq => ?_) hHeld1 ?_
    rotate_left
    · (try dsimp only at hSq); go_simp; try with_reducible rfl
    simp only [Act.put, List.setIfInBounds_toArray, List.set_cons_zero, List.set_cons_succ]
    refine held_take (i := 22) (v := ?_) rfl (by kernel_rfl) (by kernel_rfl) (by kernel_rfl) (fun _ _ _ h => h) (by rfl) (fun wq hSq => ?_) hHeld1 ?_
    rotate_left
    · (try dsimp only at hSq); go_simp; try with_reducible rfl
    simp only [Act.put, List.setIfInBounds_toArray, List.set_cons_zero, List.set_cons_succ]
    refine held_take (i := 23) (v := ?_) rfl (by kernel_rfl) (by kernel_rfl) (by kernel_rfl) (fun _ _ _ h => h) (by rfl) (fun wq hSq => ?_) hHeld1 ?_
    rotate_left
    · (try dsimp only at hSq); go_simp; try with_reducible rfl
    simp only [Act.put, List.setIfInBounds_toArray, List.set_cons_zero, List.set_cons_succ]
    refine held_take (i := 24) (v := ?_) rfl (by kernel_rfl) (by kernel_rfl) (by kernel_rfl) (fun _ _ _ h => h) (by rfl) (fun wq hSq => ?_) hHeld1 ?_
    rotate_left
    · (try dsimp only at hSq); go_simp; try with_reducible rfl
    simp only [Act.put, List.setIfInBounds_toArray, List.set_cons_zero, List.set_cons_succ]
    refine held_take (i := 25) (v := ?_) rfl (by kernel_rfl) (by kernel_rfl) (by kernel_rfl) (fun _ _ _ h => h) (by rfl) (fun wq hSq => ?_) hHeld1 ?_
    rotate_left
    · (try dsimp only at hSq); go_simp; try with_reducible rfl
    simp only [Act.put, List.setIfInBounds_toArray, List.set_cons_zero, List.set_cons_succ]
    refine held_take (i := 26) (v := ?_) rfl (by kernel_rfl) (by kernel_rfl) (by kernel_rfl) (fun _ _ _ h => h) (by rfl) (fun wq hSq => ?_) hHeld1 ?_
    rotate_left
    · (try dsimp only at hSq); go_simp; try with_reducible rfl
    simp only [Act.put, List.setIfInBounds_toArray, List.set_cons_zero, List.set_cons_succ]
    refine held_take (i := 27) (v := ?_) rfl (by kernel_rfl) (by kernel_rfl) (by kernel_rfl) (fun _ _ _ h => h) (by rfl) (fun wq hSq => ?_) hHeld1 ?_
    rotate_left
    · (try dsimp only at hSq); go_simp; try with_reducible rfl
    simp only [Act.put, List.setIfInBounds_toArray, List.set_cons_zero, List.set_cons_succ]
    refine held_take (i := 28) (v := ?_) rfl (by kernel_rfl) (by kernel_rfl) (by kernel_rfl) (fun _ _ _ h => h) (by rfl) (fun wq hSq => ?_) hHeld1 ?_
    rotate_left
    · (try dsimp only at hSq); go_simp; try with_reducible rfl
    simp only [Act.put, List.setIfInBounds_toArray, List.set_cons_zero, List.set_cons_succ]
    refine held_take (i := 29) (v := ?_) rfl (by kernel_rfl) (by kernel_rfl) (by kernel_rfl) (fun _ _ _ h => h) (by rfl) (fun wq hSq => ?_) hHeld1 ?_
    rotate_left
    · (try dsimp only at hSq); go_simp; try with_reducible rfl
    simp only [Act.put, List.setIfInBounds_toArray, List.set_cons_zero, List.set_cons_succ]
    refine held_take (i := 31) (v := ?_) rfl (by kernel_rfl) (by kernel_rfl) (by kernel_rfl) (fun _ _ _ h => h) (by rfl) (fun wq hSq => ?_) hHeld1 ?_
    rotate_left
    · (try dsimp only at hSq); go_simp; try with_reducible rfl
    simp only [Act.put, List.setIfInBounds_toArray, List.set_cons_zero, List.set_cons_succ]
    refine held_step (i := 30) (by kernel_rfl) rfl (by rfl) (fun K hK => ?_)
    go_simp
    refine (reason_calls x1 status).mono ?_
    rintro e9 x2 ⟨rfl, rfl⟩
    dsimp only
    refine hK.out _ _ K1.out.f (fun hHeld2 => ?_)
    clear hK K hHeld1
    refine held_step (i := 32) (by kernel_rfl) rfl (by rfl) (fun K hK => ?_)
    go_simp
    refine (reasonR_calls x1 status).mono ?_
    rintro e9 x3 ⟨rfl, hy3⟩
    have K3 := Lib.hid (K1.out.below hy3)
    have L3 := Lib.hid (L1.out.trans (hy3.mono L1.out.size))
    clear hy3
    dsimp only
    refine hK.out _ _ K3.out.f (fun hHeld3 => ?_)
    clear hK K hHeld2
    refine held_take (i := 33) (v := ?_) rfl (by kernel_rfl) (by kernel_rfl) (by kernel_rfl) (fun _ _ _ h => h) (by rfl) (fun wq hSq => ?_) hHeld3 ?_
    rotate_left
    · (try dsimp only at hSq); go_simp; try with_reducible rfl
    simp only [Act.put, List.setIfInBounds_toArray, List.set_cons_zero, List.set_cons_succ]
    refine held_take (i := 34) (v := ?_) rfl (by kernel_rfl) (by kernel_rfl) (by kernel_rfl) (fun _ _ _ h => h) (by rfl) (fun wq hSq => ?_) hHeld3 ?_
    rotate_left
    · (try dsimp only at hSq); go_simp; try with_reducible rfl
    simp only [Act.put, List.setIfInBounds_toArray, List.set_cons_zero, List.set_cons_succ]
    refine held_take (i := 35) (v := ?_) rfl (by kernel_rfl) (by kernel_rfl) (by kernel_rfl) (fun _ _ _ h => h) (by rfl) (fun wq hSq => ?_) hHeld3 ?_
    rotate_left
    · (try dsimp only at hSq); go_simp; try with_reducible rfl
    simp only [Act.put, List.setIfInBounds_toArray, List.set_cons_zero, List.set_cons_succ]
    refine held_take (i := 36) (v := ?_) rfl (by kernel_rfl) (by kernel_rfl) (by kernel_rfl) (fun _ _ _ h => h) (by rfl) (fun wq hSq => ?_) hHeld3 ?_
    rotate_left
    · (try dsimp only at hSq); go_simp; try with_reducible rfl
    simp only [Act.put, List.setIfInBounds_toArray, List.set_cons_zero, List.set_cons_succ]
    refine held_take (i := 37) (v := ?_) rfl (by kernel_rfl) (by kernel_rfl) (by kernel_rfl) (fun _ _ _ h => h) (by rfl) (fun wq hSq => ?_) hHeld3 ?_
    rotate_left
    · (try dsimp only at hSq); go_simp; try with_reducible rfl
    simp only [Act.put, List.setIfInBounds_toArray, List.set_cons_zero, List.set_cons_succ]
    refine held_take (i := 39) (v := ?_) rfl (by kernel_rfl) (by kernel_rfl) (by kernel_rfl) (fun _ _ _ h => h) (by rfl) (fun wq hSq => ?_) hHeld3 ?_
    rotate_left
    · (try dsimp only at hSq); go_simp; try with_reducible rfl
    simp only [Act.put, List.setIfInBounds_toArray, List.set_cons_zero, List.set_cons_succ]
    refine held_take (i := 40) (v := ?_) rfl (by kernel_rfl) (by kernel_rfl) (by kernel_rfl) (fun _ _ _ h => h) (by rfl) (fun wq hSq => ?_) hHeld3 ?_
    rotate_left
    · (try dsimp only at hSq); go_simp; try with_reducible rfl
    simp only [Act.put, List.setIfInBounds_toArray, List.set_cons_zero, List.set_cons_succ]
    refine held_step (i := 38) (by kernel_rfl) rfl (by rfl) (fun K hK => ?_)
    go_simp
    refine (status_calls x3 e).mono ?_
    rintro e9 x4 ⟨rfl, rfl⟩
    dsimp only
    refine hK.out _ _ K3.out.f (fun hHeld4 => ?_)
    clear hK K hHeld3
    refine held_step (i := 41) (by kernel_rfl) rfl (by rfl) (fun K hK => ?_)
    go_simp
    refine (num_calls x3 e).mono ?_
    rintro e9 x5 ⟨rfl, rfl⟩
    dsimp only
    refine hK.out _ _ K3.out.f (fun hHeld5 => ?_)
    clear hK K hHeld4
    refine held_step (i := 42) (by kernel_rfl) rfl (by rfl) (fun K hK => ?_)
    go_simp
    refine (statusR_calls x3 e).mono ?_
    rintro e9 x6 ⟨rfl, rfl⟩
    dsimp only
    refine hK.out _ _ K3.out.f (fun hHeld6 => ?_)
    clear hK K hHeld5
    refine held_take (i := 43) (v := ?_) rfl (by kernel_rfl) (by kernel_rfl) (by kernel_rfl) (fun _ _ _ h => h) (by rfl) (fun wq hSq => ?_) hHeld6 ?_
    rotate_left
    · (try dsimp only at hSq); go_simp; try with_reducible rfl
    simp only [Act.put, List.setIfInBounds_toArray, List.set_cons_zero, List.set_cons_succ]
    refine held_take (i := 44) (v := ?_) rfl (by kernel_rfl) (by kernel_rfl) (by kernel_rfl) (fun _ _ _ h => h) (by rfl) (fun wq hSq => ?_) hHeld6 ?_
    rotate_left
    · (try dsimp only at hSq); go_simp; try with_reducible rfl
    simp only [Act.put, List.setIfInBounds_toArray, List.set_cons_zero, List.set_cons_succ]
    refine held_take (i := 45) (v := ?_) rfl (by kernel_rfl) (by kernel_rfl) (by kernel_rfl) (fun _ _ _ h => h) (by rfl) (fun wq hSq => ?_) hHeld6 ?_
    rotate_left
    · (try dsimp only at hSq); go_simp; try with_reducible rfl
    simp only [Act.put, List.setIfInBounds_toArray, List.set_cons_zero, List.set_cons_succ]
    refine held_step (i := 46) (by kernel_rfl) rfl (by rfl) (fun K hK => ?_)
    go_simp
    refine (works_calls x3 (He.out.below L3.out)).mono ?_
    rintro e9 x7 ⟨rfl, hy7⟩
    have K7 := Lib.hid (K3.out.below hy7)
    have L7 := Lib.hid (L3.out.trans (hy7.mono L3.out.size))
    clear hy7
    dsimp only
    refine hK.out _ _ K7.out.f (fun hHeld7 => ?_)
    clear hK K hHeld6
    refine held_take (i := 47) (v := ?_) rfl (by kernel_rfl) (by kernel_rfl) (by kernel_rfl) (fun _ _ _ h => h) (by rfl) (fun wq hSq => ?_) hHeld7 ?_
    rotate_left
    · (try dsimp only at hSq); go_simp; try with_reducible rfl
    simp only [Act.put, List.setIfInBounds_toArray, List.set_cons_zero, List.set_cons_succ]
    refine held_take (i := 48) (v := ?_) rfl (by kernel_rfl) (by kernel_rfl) (by kernel_rfl) (fun _ _ _ h => h) (by rfl) (fun wq hSq => ?_) hHeld7 ?_
    rotate_left
    · (try dsimp only at hSq); go_simp; try with_reducible rfl
    simp only [Act.put, List.setIfInBounds_toArray, List.set_cons_zero, List.set_cons_succ]
    refine wpAnyH_done (by kernel_rfl) ?_ _
    clear hHeld7
    go_wp2_with fail
    go_ret
    exact ⟨rfl, L7.out⟩
end Go.Proofs.YtgdfgppgfkkncaaGreatDoor
