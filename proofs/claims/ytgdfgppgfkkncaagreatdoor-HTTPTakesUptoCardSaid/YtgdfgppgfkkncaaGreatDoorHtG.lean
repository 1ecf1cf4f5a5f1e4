/- Bytes that come in pieces: the law's all. Printed by gen_all.py. -/
import Derived.Test.YtgdfgppgfkkncaaGreatDoorHtS
namespace Go.Proofs.YtgdfgppgfkkncaaGreatDoor
open Go.RowKit

/-- v is a slice that reads as these numbers. -/
def IntS (w : World) (v : Value) (l : List Int) : Prop :=
  (v = .slice none 0 0 ∧ l = []) ∨ ∃ b off cap, v = .slice (some ⟨b, off, none⟩) l.length cap ∧ l.length ≤ cap ∧ b < w.heap.size ∧ ∀ j, j < l.length → w.cell? ⟨b, off + j, none⟩ = some (.int .i64 (l.getD j 0))
theorem IntS.below {w w' : World} {v : Value} {l : List Int} (h : IntS w v l) (hb : Below w.heap.size w w') : IntS w' v l := by
  rcases h with h | ⟨b, off, cap, h1, h2, h4, h5⟩
  · exact .inl h
  · exact .inr ⟨b, off, cap, h1, h2, Nat.lt_of_lt_of_le h4 hb.size, fun j hj => (hb.cell (p := ⟨b, off + j, none⟩) h4).trans (h5 j hj)⟩
theorem IntS.form {w : World} {v : Value} {l : List Int} (h : IntS w v l) : ∃ p cap, v = .slice p l.length cap ∧ l.length ≤ cap ∧ (0 < l.length → ∃ b off, p = some ⟨b, off, none⟩) := by
  rcases h with ⟨rfl, rfl⟩ | ⟨b, off, cap, h1, h2, h4, h5⟩
  · exact ⟨none, 0, rfl, Nat.le_refl _, fun h => by simp at h⟩
  · exact ⟨_, cap, h1, h2, fun _ => ⟨b, off, rfl⟩⟩
theorem IntS.at {w : World} {b off n cap : Nat} {l : List Int} (h : IntS w (.slice (some ⟨b, off, none⟩) n cap) l) (j : Nat) (hj : j < l.length) : w.cell? ⟨b, off + j, none⟩ = some (.int .i64 (l.getD j 0)) := by
  rcases h with ⟨h, _⟩ | ⟨b', off', cap', h1, _, _, h5⟩
  · simp at h
  · simp only [Value.slice.injEq, Option.some.injEq, Addr.mk.injEq] at h1
    obtain ⟨⟨rfl, rfl, -⟩, -, -⟩ := h1
    exact h5 j hj
/-- A list of requests that lies apart from some blocks. -/
structure OutV (w : World) (S : Nat → Prop) (v : Value) (rs : List ReqR) : Prop where
  reqs : ReqsV w 0 v rs
  row : ∀ k, v.ownBlock = some k → ¬ S k
  hdr : ∀ r ∈ rs, ∀ k, r.2.1.ownBlock = some k → ¬ S k
  bod : ∀ r ∈ rs, ∀ k, r.2.2.ownBlock = some k → ¬ S k
theorem OutV.apart {w w' : World} {S S' : Nat → Prop} {v : Value} {rs : List ReqR} (h : OutV w S v rs) (ha : Apart S w w') (hs : ∀ k, k < w.heap.size → S' k → S k) : OutV w' S' v rs :=
  ⟨⟨ownsRow_apart h.reqs.row ha h.row, fun r hr => ownsRow_apart (h.reqs.hdr r hr) ha (h.hdr r hr), fun r hr => (h.reqs.bod r hr).apart ha (h.bod r hr)⟩,
    fun k hk e => h.row k hk (hs k (World.ownsRow.lt h.reqs.row k hk).2 e), fun r hr k hk e => h.hdr r hr k hk (hs k (World.ownsRow.lt (h.reqs.hdr r hr) k hk).2 e), fun r hr k hk e => h.bod r hr k hk (hs k ((h.reqs.bod r hr).lt k hk).2 e)⟩
theorem HdrV.one {w : World} {B : Nat} {v : Value} {hs : List Hdr} (h : HdrV w B v hs) : v.oneCell' = true := by
  obtain ⟨p, c, rfl⟩ := h.forms; rfl
theorem reqRow_one {w : World} {B : Nat} {v : Value} {rs : List ReqR} (h : ReqsV w B v rs) : ∀ u ∈ reqRow rs, u.oneCell' = true := by
  intro u hu
  obtain ⟨r, hr, hu⟩ := List.mem_flatMap.1 hu
  simp [reqCells] at hu
  rcases hu with rfl | rfl | rfl | rfl | rfl | rfl
  · rfl
  · rfl
  · rfl
  · exact (h.hdr r hr).one
  · exact (h.bod r hr).one
  · rfl
/-- What append hands back lies in the old row or in new memory. -/
theorem append_fresh {P : Program} {w : World} {base : Nat} {t ty e : TypeId} {i : TypeInfo} {z : Value} {size bytes : Nat} (ht : P.underlying t = some (.slice e)) (hi : P.info? e = some i) (hz : i.zero = some z)
    (hsize : i.size = size) (hby : i.bytes = bytes) (hzs : z.cells.size = size) (hsz : 0 < size) {v : Value} {n : Nat} {xs : List Value} (hown : w.ownsRow base e size v n xs)
    {a : Addr} {m c : Nat} {news : List Value} (hl : news.length = m * size) (hnews : ∀ j u, news[j]? = some u → w.cell? (a.add j) = some u) (h1 : ∀ u ∈ news, u.oneCell' = true)
    (h63 : n + m ≤ maxLen) (hbytes : (n + m) * bytes ≤ 140737488355328) {v' : Value} {w' : World} (hrun : (Builtin.append_ #[t, t] ty #[v, .slice (some a) m c]).run P w = .ok v' w') :
    ∀ k, v'.ownBlock = some k → v.ownBlock = some k ∨ w.heap.size ≤ k := by
  intro k hk
  rcases hown.2 with ⟨rfl, hn⟩ | ⟨g0, cap0, cur, rfl, hb, hh, hc, hcm, hcs, htk⟩
  · obtain ⟨v2, w2, h2, ho, _⟩ := run_append_own (P := P) w w.heap.size t ty e i z size bytes ht hi hz hsize hby hzs hsz (.slice none 0 0) 0 [] (World.ownsRow_nil w _ e size) a m c news hl hnews h1 (by omega) (by rw [hn] at hbytes; exact hbytes) (Nat.le_refl _)
    rw [hrun] at h2
    cases h2
    exact .inr (World.ownsRow.lt ho k hk).1
  · by_cases hr : n + m ≤ cap0
    · have h2 := run_append_room_cells (P := P) w t ty e i ht hi g0 0 n cap0 a m c news (by rw [hsize]; exact hl) hnews h1 hr
        (fun j hj => by
          have hlt : 0 + n * i.size + j < cur.size := by
            rw [hcs, hsize, Nat.zero_add]
            rw [hl] at hj
            have : (n + m) * size ≤ cap0 * size := Nat.mul_le_mul_right _ hr
            rw [Nat.add_mul] at this
            omega
          unfold World.cell?
          simp only [hh]
          rw [Array.getElem?_eq_getElem hlt]
          rfl)
        (fun j hj => World.ownsRow.frozenAt hown _)
      rw [hrun] at h2
      cases h2
      exact .inl hk
    · obtain ⟨v2, w2, h2, ho, _⟩ := run_append_arg_grows (P := P) w t ty e i z size bytes ht hi hz hsize hby hzs hsz ⟨g0, 0, none⟩ n cap0 xs hown.1 (fun j u hj => by rw [addr_off rfl, Nat.zero_add, World.ownsRow.cellAt hown j (by have := (List.getElem?_eq_some_iff.1 hj).1; rw [hown.1] at this; exact this)]; exact hj) a m c news hl hnews (by omega) h63 hbytes
      rw [hrun] at h2
      cases h2
      exact .inr (World.ownsRow.lt ho k hk).1
/-- 'append(out, l...)' of requests. -/
theorem wpList_append_reqs {w : World} {ops : Array Oper} {rest : List Oper} {o : Oper} {a : Act} {Q : Exit → Act → World → Prop} (hgd : o.guard = none) (s x : Operand)
    (ho : o.op = .call { callee := .builtin .append, args := #[s, x], argTypes := #[29, 29] })
    (S : Nat → Prop) (v xv : Value) (rs ls : List ReqR) (hv : a.eval s = v) (hout : OutV w S v rs) (hx : a.eval x = xv) (hxv : OutV w S xv ls) (hlen : rs.length + ls.length ≤ 100000000) (hS : ∀ k, S k → k < w.heap.size)
    (hK : ∀ v' w', OutV w' S v' (rs ++ ls) → w.grownBy w' v.ownBlock → (∀ k, v'.ownBlock = some k → v.ownBlock = some k ∨ w.heap.size ≤ k) → wpList Tryz.prog ops Q rest (a.put o.dst v') w') :
    wpList Tryz.prog ops Q (o :: rest) a w := by
  obtain ⟨i0, hi, hz0, hz1, hz2⟩ := info_parts Tryz.info40
  rcases hxv.reqs.row.2 with ⟨rfl, h2⟩ | ⟨g, cap, cur, rfl, hb, hh, hc, hcm, hcs, htk⟩
  · have hl : ls = [] := List.length_eq_zero_iff.1 h2
    subst hl
    refine wpList_append_own_none hgd s x 29 ho 0 40 i0 6 Tryz.underlying29 hi v rs.length (reqRow rs) hv hout.reqs.row hx ?_
    exact hK v w (by rw [List.append_nil]; exact hout) ⟨rfl, rfl, rfl, Nat.le_refl _, fun _ _ _ => rfl⟩ (fun k hk => .inl hk)
  · have hx2 := hxv.reqs.row
    have hnews : ∀ j u, (reqRow ls)[j]? = some u → w.cell? ((⟨g, 0, none⟩ : Addr).add j) = some u := by
      intro j u hj
      have hj2 := (List.getElem?_eq_some_iff.1 hj).1
      rw [reqRow_len] at hj2
      rw [addr_off rfl, Nat.zero_add, World.ownsRow.cellAt hx2 j (by omega)]
      exact hj
    obtain ⟨v', w', hrun, h1, h2, _⟩ := run_append_own (P := Tryz.prog) w 0 29 o.type 40 i0 _ 6 104 Tryz.underlying29 hi hz0 hz1 hz2 rfl (by decide) v rs.length (reqRow rs) hout.reqs.row ⟨g, 0, none⟩ ls.length cap (reqRow ls) (reqRow_len ls) hnews (reqRow_one hxv.reqs) (by unfold maxLen; omega) (by omega) (Nat.zero_le _)
    have hfr := append_fresh Tryz.underlying29 hi hz0 hz1 hz2 rfl (by decide) hout.reqs.row (reqRow_len ls) hnews (reqRow_one hxv.reqs) (by unfold maxLen; omega) (by omega) hrun
    refine wpList_plain hgd fun K hK' => ?_
    suffices hgo : wpList Tryz.prog ops Q rest (a.put o.dst v') w' by
      unfold Oper.wp
      simp [execOp, ho, resolve, invoke, builtin, hv, hx, hrun, Result.andThen]
      exact hK' _ _ hgo
    · clear hK'
      have hap : Apart (fun k => v.ownBlock = some k) w w' := Apart.ofGrown h2 (fun k hk => hk)
      have hro : ∀ k, v'.ownBlock = some k → ¬ S k := fun k hk hs => by
        have hlt := hS k hs
        rcases hfr k hk with h9 | h9
        · exact hout.row k h9 hs
        · omega
      refine hK v' w' ⟨⟨by rw [List.length_append, reqRow_app]; exact h1, fun r hr => ?_, fun r hr => ?_⟩, hro, fun r hr => ?_, fun r hr => ?_⟩ h2 hfr
      · rcases List.mem_append.1 hr with hr | hr
        · exact ownsRow_apart (hout.reqs.hdr r hr) hap (fun k hk => ownsRow_ne (hout.reqs.hdr r hr) hout.reqs.row (by decide) k hk)
        · exact ownsRow_apart (hxv.reqs.hdr r hr) hap (fun k hk => ownsRow_ne (hxv.reqs.hdr r hr) hout.reqs.row (by decide) k hk)
      · rcases List.mem_append.1 hr with hr | hr
        · exact (hout.reqs.bod r hr).apart hap (fun k hk => (hout.reqs.bod r hr).ne hout.reqs.row (by decide) k hk)
        · exact (hxv.reqs.bod r hr).apart hap (fun k hk => (hxv.reqs.bod r hr).ne hout.reqs.row (by decide) k hk)
      · rcases List.mem_append.1 hr with hr | hr
        · exact hout.hdr r hr
        · exact hxv.hdr r hr
      · rcases List.mem_append.1 hr with hr | hr
        · exact hout.bod r hr
        · exact hxv.bod r hr

theorem ReqsV.le {w : World} {B B' : Nat} {v : Value} {rs : List ReqR} (h : ReqsV w B v rs) (hb : B' ≤ B) : ReqsV w B' v rs :=
  ⟨Go.Joins.ownsRow_le h.row hb, fun r hr => (h.hdr r hr).le hb, fun r hr => (h.bod r hr).le hb⟩
theorem ReqsV.outv {w : World} {B : Nat} {S : Nat → Prop} {v : Value} {rs : List ReqR} (h : ReqsV w B v rs) (hS : ∀ k, S k → k < B) : OutV w S v rs :=
  ⟨h.le (Nat.zero_le _), fun k hk e => by have := (World.ownsRow.lt h.row k hk).1; have := hS k e; omega, fun r hr k hk e => by have := (World.ownsRow.lt (h.hdr r hr) k hk).1; have := hS k e; omega, fun r hr k hk e => by have := ((h.bod r hr).lt k hk).1; have := hS k e; omega⟩
/-- Between two rounds of all. -/
structure AInv (w wr : World) (C : Nat) (vr out : Value) (b : List UInt8) (nz : Nat) (rs : List ReqR) (e : Int) (at_ i : Nat) (lw : List UInt8) (dd : Bool) : Prop where
  outv : OutV wr (OwnC C vr) out rs
  conn : ConnAt wr C vr lw dd
  bel : Below w.heap.size w wr
  run : runA (b.take at_) = (rs.map (·.1), e, lw, dd)
  le : at_ ≤ b.length
  ile : i ≤ nz + 1
  all : i = nz + 1 → at_ = b.length
  live : dd = false → e = 0
  len : rs.length + lw.length ≤ at_
  new : ∀ k, out.ownBlock = some k → w.heap.size ≤ k
theorem AInv.fin {w wr : World} {C : Nat} {vr out : Value} {b : List UInt8} {nz : Nat} {rs : List ReqR} {e : Int} {at_ i : Nat} {lw : List UInt8} {dd : Bool} (h : AInv w wr C vr out b nz rs e at_ i lw dd) (hd : i = nz + 1 ∨ dd = true) : runA b = (rs.map (·.1), e, lw, dd) := by
  rcases hd with hd | hd
  · have h1 := h.run
    rwa [h.all hd, List.take_length] at h1
  · have h2 := runA_app _ (b.take at_) (b.drop at_) (Nat.le_refl _)
    rw [List.take_append_drop, h.run] at h2
    simp only [hd, if_true] at h2
    rw [h2, hd]
theorem run_len (w : List UInt8) : (runA w).1.length + (runA w).2.2.1.length ≤ w.length := by
  have key : ∀ (n : Nat) (w : List UInt8), w.length ≤ n → (runA w).1.length + (runA w).2.2.1.length ≤ w.length := by
    intro n
    induction n with
    | zero =>
      intro w hw
      obtain rfl : w = [] := by simpa using hw
      decide
    | succ n ih =>
      intro w hw
      cases hN : nextS w with
      | err e => rw [runA_err hN]; simp
      | more => rw [runA_more hN]; simp
      | got q r =>
        have hs := nextS_short hN
        rw [runA_got hN]
        split
        · simp; omega
        · have := ih r (by omega)
          simp; omega
  exact key _ w (Nat.le_refl _)
theorem AInv.step {w wr : World} {C : Nat} {vr out : Value} {b : List UInt8} {nz : Nat} {rs : List ReqR} {e : Int} {at_ i : Nat} {lw : List UInt8} (h : AInv w wr C vr out b nz rs e at_ i lw false) (n : Nat) :
    runA (b.take (at_ + n)) = (rs.map (·.1) ++ (takeS lw false ((b.drop at_).take n)).1, (takeS lw false ((b.drop at_).take n)).2) := by
  have h2 := runA_app _ (b.take at_) ((b.drop at_).take n) (Nat.le_refl _)
  rw [← List.take_add, h.run] at h2
  simp only [Bool.false_eq_true, if_false] at h2
  rw [h2, takeS_live]
theorem and63 (z : Int) : ∃ m : Nat, bits .and .i64 z 63 = (m : Int) := by
  have h1 : (BitVec.ofInt 64 z &&& BitVec.ofInt 64 63).toNat ≤ 63 := by
    rw [BitVec.toNat_and]
    exact Nat.and_le_right
  refine ⟨(BitVec.ofInt 64 z &&& BitVec.ofInt 64 63).toNat, ?_⟩
  show IntKind.i64.wrap ((BitVec.ofInt 64 z &&& BitVec.ofInt 64 63).toNat : Int) = _
  exact IntWalk.i64_in _ (by omega)
theorem waitV_none (w : World) (fz : Nat × Nat) : WaitV (w.alloc (.cells #[] 5 fz)) w.heap.size (.slice (some ⟨w.heap.size, 0, none⟩) 0 0) [] :=
  .inr ⟨w.heap.size, 0, 0, rfl, Nat.le_refl _, by simp, Nat.le_refl _, Nat.zero_le _, fun j hj => by simp at hj, fun j hj => by omega, fun j hj => by omega⟩
set_option maxHeartbeats 8000000 in
set_option maxRecDepth 100000 in
theorem all_calls (w : World) (he : Env w) (bv cv : Value) (b : List UInt8) (zs : List Int) (hb : BytS w bv b) (hc : IntS w cv zs) (hlb : b.length ≤ 10000000) (hlc : zs.length ≤ 1000) :
    Calls Tryz.prog 23 #[bv, cv] w fun e w' => (∃ x rs, e = .returned (.tuple #[x, .int .i64 (runA b).2.1, .int .i64 (runA b).2.2.1.length, .bool true]) ∧ ReqsV w' 0 x rs ∧ rs.map (·.1) = (runA b).1) ∧ Below w.heap.size w w' := by
  obtain ⟨pb, cb, rfl, hcb, hmb, hpb⟩ := hb.open
  obtain ⟨pz, cz, rfl, hcz, hpz⟩ := hc.form
  have He := Lib.hid he
  have HB := Lib.hid hb
  have HC := Lib.hid hc
  have Hpb := Lib.hid hpb
  have Hpz := Lib.hid hpz
  clear he hb hc hpb hpz hmb
  go_enter Tryz.func23, Tryz.ntmps23
  go_wp2_with fail
  refine (new_calls w).mono ?_
  rintro e w1 ⟨rfl, hc1, hb1⟩
  have hinv0 : AInv w w1 w.heap.size (.slice none 0 0) (.slice none 0 0) b zs.length [] 0 0 0 [] false := ⟨⟨ReqsV.nil w1 0, fun k hk => (by cases hk), fun r hr => (by cases hr), fun r hr => (by cases hr)⟩, hc1, hb1, by simp; rfl, Nat.zero_le _, Nat.zero_le _, fun h => by omega, fun _ => rfl, by simp, fun k hk => (by cases hk)⟩
  have HI0 := Lib.hid hinv0
  clear hinv0 hc1 hb1
  go_wp2_with fail
  go_loopg [9, 10, 11, 12] (zs.length + 1) (fun k o9 o10 o11 o12 wr => ∃ vr rs e at_ i lw dd, k = zs.length + 1 - i ∧ o10 = .int .i64 e ∧ o11 = .int .i64 (at_ : Nat) ∧ o12 = .int .i64 (i : Nat) ∧ AInv w wr w.heap.size vr o9 b zs.length rs e at_ i lw dd)
  case atStart => exact ⟨_, [], 0, 0, 0, [], false, rfl, rfl, rfl, rfl, HI0.out⟩
  case round =>
    obtain ⟨vr, rs, e, at_, i, lw, dd, hk, rfl, rfl, rfl, hinv⟩ := hrel
    have HI := Lib.hid hinv
    have Hk := Lib.hid hk
    have hile := hinv.ile
    have hale := hinv.le
    clear hinv hk HI0
    obtain ⟨po, co, rfl⟩ := HI.out.outv.reqs.forms
    by_cases hi : i ≤ zs.length
    ·
      have hi2 : (i : Int) ≤ zs.length := by omega
      go_wp2_with fail
      refine (num_calls wr e).mono ?_
      rintro e9 w9 ⟨rfl, rfl⟩
      cases dd with
      | true =>
        by_cases he0 : e = 0
        ·
          subst he0
          go_wp2_with fail
          refine (dead_calls wr HI.out.conn).mono ?_
          rintro e9 w9 ⟨rfl, rfl⟩
          go_wp2_with fail
          refine (num_calls _ 0).mono ?_
          rintro e9 w9 ⟨rfl, rfl⟩
          go_wp2_with fail
          refine (waiting_calls _ HI.out.conn).mono ?_
          rintro e9 w9 ⟨rfl, rfl⟩
          go_wp2_with fail
          refine bodyPost_ret (v := .tuple #[.slice po rs.length co, .int .i64 0, .int .i64 lw.length, .bool true]) (by simp [results, Tryz.results23, go_sem]) rfl ?_
          have hf := HI.out.fin (.inr rfl)
          exact ⟨⟨_, rs, by rw [hf], HI.out.outv.reqs, by rw [hf]⟩, HI.out.bel⟩
        ·
          have he2 : (e == 0) = false := by rw [beq_eq_false_iff_ne]; exact he0
          clear he0
          go_wp2_with fail
          refine (num_calls _ e).mono ?_
          rintro e9 w9 ⟨rfl, rfl⟩
          go_wp2_with fail
          refine (waiting_calls _ HI.out.conn).mono ?_
          rintro e9 w9 ⟨rfl, rfl⟩
          go_wp2_with fail
          refine bodyPost_ret (v := .tuple #[.slice po rs.length co, .int .i64 e, .int .i64 lw.length, .bool true]) (by simp [results, Tryz.results23, go_sem]) rfl ?_
          have hf := HI.out.fin (.inr rfl)
          exact ⟨⟨_, rs, by rw [hf], HI.out.outv.reqs, by rw [hf]⟩, HI.out.bel⟩
      | false =>
        obtain rfl : e = 0 := HI.out.live rfl
        go_wp2_with fail
        refine (dead_calls wr HI.out.conn).mono ?_
        rintro e9 w9 ⟨rfl, rfl⟩
        have hwr : IntKind.i64.wrap ((b.length : Int) - at_) = ((b.length - at_ : Nat) : Int) := by rw [IntWalk.i64_in _ (by omega)]; omega
        by_cases hi3 : i < zs.length
        ·
          have hi4 : (i : Int) < zs.length := by omega
          obtain ⟨gz, oz, rfl⟩ := Hpz.out (by omega)
          have yz := (HC.out.below HI.out.bel).at i hi3
          obtain ⟨zi, hzi⟩ : ∃ z, zs.getD i 0 = z := ⟨_, rfl⟩
          rw [hzi] at yz
          go_upto_region 13 with fail
          obtain ⟨mz, hmz⟩ := and63 zi
          rw [hmz]
          obtain ⟨nn, hnn0⟩ : ∃ nn, min (b.length - at_) mz = nn := ⟨_, rfl⟩
          have hnn : at_ + nn ≤ b.length := by omega
          rw [show min ((b.length - at_ : Nat) : Int) (mz : Int) = (nn : Int) by omega]
          have hend : i = zs.length → at_ + nn = b.length := fun h => by omega
          clear hnn0 hmz hzi yz
          have Hend := Lib.hid hend
          have Hnn := Lib.hid hnn
          clear hend
          have hw2 : IntKind.i64.wrap ((at_ : Int) + nn) = ((at_ + nn : Nat) : Int) := by rw [IntWalk.i64_in _ (by omega)]; omega
          obtain ⟨pc, hpc⟩ : ∃ pc, (b.drop at_).take nn = pc := ⟨_, rfl⟩
          have hpl : pc.length = nn := by rw [← hpc]; simp; omega
          have hst := HI.out.step nn
          rw [hpc] at hst
          obtain ⟨pre, hpre⟩ : ∃ pre, b.take (at_ + nn) = pre := ⟨_, rfl⟩
          rw [hpre] at hst
          have Hprl : Hid (pre.length = at_ + nn) := Lib.hid (by rw [← hpre]; simp; omega)
          have Hpre := Lib.hid hpre
          clear hpre
          have Hst := Lib.hid hst
          clear hst
          rcases HB.out with ⟨h9, h8⟩ | ⟨gb, ob, cb2, h9, hB1, hB2, hB3, hB4⟩
          ·
            subst h8
            cases h9
            obtain rfl : at_ = 0 := by simp at hnn; omega
            obtain rfl : nn = 0 := by simp at hnn; omega
            have hsv : BytS wr (.slice none 0 0) pc := .inl ⟨rfl, List.length_eq_zero_iff.1 hpl⟩
            have Hsv := Lib.hid hsv
            have Hpc := Lib.hid hpc
            have Hpl := Lib.hid hpl
            clear hsv hpc hpl
            go_wp2_with (at_builtin; go_must (refine wpList_append_wait rfl _ _ rfl wr.heap.size _ _ [] pc rfl (waitV_none wr (0, 0)) rfl (Hsv.out.below ((Below.refl _ _).alloc (Nat.le_refl _) _)) (by simp; have := Hpl.out; omega) (by simp) ?_))
            intro v7 w7 hv7 hg7 _
            try rw [List.nil_append] at hv7
            have hb7 : Below wr.heap.size wr w7 := ((Below.refl wr.heap.size wr).alloc (Nat.le_refl _) _).grown hg7 (by simp) (fun k hk => by cases hk; exact Nat.le_refl _)
            have HB7 := Lib.hid (HI.out.bel.trans (hb7.mono HI.out.bel.size))
            have HC7 := Lib.hid (HI.out.conn.below hb7)
            have HO7 := Lib.hid (HI.out.outv.apart (Apart.ofBelow (S := OwnC w.heap.size vr) hb7) (fun _ _ h => h))
            have HV7 := Lib.hid hv7.byts
            have hlw := HI.out.len
            clear hv7 hg7 hb7
            go_wp2_with fail
            refine (take_calls w w7 He.out HB7.out HC7.out (Nat.le_refl _) HV7.out (by have := Hpl.out; omega)).mono ?_
            rintro e9 w8 ⟨B8, x8, rs8, v8, rfl, hB8, hr8, hm8, hc8, hap8, how8, hfr8⟩
            generalize takeS lw false pc = T at *
            obtain ⟨T1, T2, T3, T4⟩ := T
            simp only at hm8 hc8 Hst ⊢
            subst hm8
            obtain ⟨p8, c8, rfl⟩ := hr8.forms
            have HB8 := Lib.hid (TakeOut.below HB7.out HC7.out (Nat.le_refl _) hap8)
            have HC8 := Lib.hid hc8
            have HO8 := Lib.hid (HO7.out.apart hap8 (S' := OwnC w.heap.size v8) (fun k hk h => h.imp id (fun h9 => (hfr8 k h9).resolve_right (by omega))))
            have HL8 := Lib.hid (hr8.outv (S := OwnC w.heap.size v8) how8)
            have hrl := run_len pre
            rw [Hst.out] at hrl
            simp only [List.length_append, List.length_map] at hrl
            have hprl := Hprl.out
            clear hB8 hr8 hc8 hap8 how8 hfr8
            go_wp2_with (at_builtin; go_must (refine wpList_append_reqs rfl _ _ rfl (OwnC w.heap.size v8) _ _ rs rs8 rfl HO8.out rfl HL8.out (by omega) (fun k hk => (HC8.out.own hk).2) ?_))
            intro v9 w9 ho9 hg9 hfr9
            have HN9 : ∀ k, v9.ownBlock = some k → w.heap.size ≤ k := fun k hk => by
              rcases hfr9 k hk with h | h
              · exact HI.out.new k h
              · exact Nat.le_trans HB8.out.size h
            have HN9 := Lib.hid HN9
            have HO9 := Lib.hid ho9
            have HC9 := Lib.hid (HC8.out.apart (Apart.ofGrown (S := fun k => (Value.slice po rs.length co).ownBlock = some k) hg9 (fun k hk => hk)) (fun k hk h => HO8.out.row k h hk))
            have HB9 := Lib.hid (HB8.out.grown hg9 HB8.out.size (fun k hk => HI.out.new k hk))
            clear ho9 hg9 hfr9
            go_wp2_with fail
            go_roundg (zs.length + 1 - (i + 1))
            case measure => have := Hk.out; omega
            case rel =>
              refine ⟨v8, rs ++ rs8, T2, 0 + 0, i + 1, T3, T4, rfl, rfl, by go_num, by go_num, ⟨HO9.out, HC9.out, HB9.out, by rw [Hpre.out, Hst.out, List.map_append], Hnn.out, by omega, fun h => Hend.out (by omega), fun h => ?_, by simp only [List.length_append]; omega, ?_⟩⟩
              · have h9 := (runA_end _ pre (Nat.le_refl _)).1
                rw [Hst.out] at h9
                exact (h9 h).1
              · exact HN9.out
          ·
            cases h9
            by_cases hca : cb = at_
            ·
              subst hca
              obtain rfl : nn = 0 := by omega
              have hsv : BytS wr (.slice (some ⟨gb, ob, none⟩) 0 0) pc := .inr ⟨gb, ob, 0, by rw [hpl], by omega, by omega, Nat.lt_of_lt_of_le hB3 HI.out.bel.size, fun j hj => by omega⟩
              clear hB4
              have Hsv := Lib.hid hsv
              have Hpc := Lib.hid hpc
              have Hpl := Lib.hid hpl
              clear hsv hpc hpl
              go_wp2_with (at_builtin; go_must (refine wpList_append_wait rfl _ _ rfl wr.heap.size _ _ [] pc rfl (waitV_none wr (0, 0)) rfl (Hsv.out.below ((Below.refl _ _).alloc (Nat.le_refl _) _)) (by simp; have := Hpl.out; omega) (by simp) ?_))
              intro v7 w7 hv7 hg7 _
              try rw [List.nil_append] at hv7
              have hb7 : Below wr.heap.size wr w7 := ((Below.refl wr.heap.size wr).alloc (Nat.le_refl _) _).grown hg7 (by simp) (fun k hk => by cases hk; exact Nat.le_refl _)
              have HB7 := Lib.hid (HI.out.bel.trans (hb7.mono HI.out.bel.size))
              have HC7 := Lib.hid (HI.out.conn.below hb7)
              have HO7 := Lib.hid (HI.out.outv.apart (Apart.ofBelow (S := OwnC w.heap.size vr) hb7) (fun _ _ h => h))
              have HV7 := Lib.hid hv7.byts
              have hlw := HI.out.len
              clear hv7 hg7 hb7
              go_wp2_with fail
              refine (take_calls w w7 He.out HB7.out HC7.out (Nat.le_refl _) HV7.out (by have := Hpl.out; omega)).mono ?_
              rintro e9 w8 ⟨B8, x8, rs8, v8, rfl, hB8, hr8, hm8, hc8, hap8, how8, hfr8⟩
              generalize takeS lw false pc = T at *
              obtain ⟨T1, T2, T3, T4⟩ := T
              simp only at hm8 hc8 Hst ⊢
              subst hm8
              obtain ⟨p8, c8, rfl⟩ := hr8.forms
              have HB8 := Lib.hid (TakeOut.below HB7.out HC7.out (Nat.le_refl _) hap8)
              have HC8 := Lib.hid hc8
              have HO8 := Lib.hid (HO7.out.apart hap8 (S' := OwnC w.heap.size v8) (fun k hk h => h.imp id (fun h9 => (hfr8 k h9).resolve_right (by omega))))
              have HL8 := Lib.hid (hr8.outv (S := OwnC w.heap.size v8) how8)
              have hrl := run_len pre
              rw [Hst.out] at hrl
              simp only [List.length_append, List.length_map] at hrl
              have hprl := Hprl.out
              clear hB8 hr8 hc8 hap8 how8 hfr8
              go_wp2_with (at_builtin; go_must (refine wpList_append_reqs rfl _ _ rfl (OwnC w.heap.size v8) _ _ rs rs8 rfl HO8.out rfl HL8.out (by omega) (fun k hk => (HC8.out.own hk).2) ?_))
              intro v9 w9 ho9 hg9 hfr9
              have HN9 : ∀ k, v9.ownBlock = some k → w.heap.size ≤ k := fun k hk => by
                rcases hfr9 k hk with h | h
                · exact HI.out.new k h
                · exact Nat.le_trans HB8.out.size h
              have HN9 := Lib.hid HN9
              have HO9 := Lib.hid ho9
              have HC9 := Lib.hid (HC8.out.apart (Apart.ofGrown (S := fun k => (Value.slice po rs.length co).ownBlock = some k) hg9 (fun k hk => hk)) (fun k hk h => HO8.out.row k h hk))
              have HB9 := Lib.hid (HB8.out.grown hg9 HB8.out.size (fun k hk => HI.out.new k hk))
              clear ho9 hg9 hfr9
              go_wp2_with fail
              go_roundg (zs.length + 1 - (i + 1))
              case measure => have := Hk.out; omega
              case rel =>
                refine ⟨v8, rs ++ rs8, T2, cb + 0, i + 1, T3, T4, rfl, rfl, by go_num, by go_num, ⟨HO9.out, HC9.out, HB9.out, by rw [Hpre.out, Hst.out, List.map_append], Hnn.out, by omega, fun h => Hend.out (by omega), fun h => ?_, by simp only [List.length_append]; omega, ?_⟩⟩
                · have h9 := (runA_end _ pre (Nat.le_refl _)).1
                  rw [Hst.out] at h9
                  exact (h9 h).1
                · exact HN9.out
            ·
              have hsv : BytS wr (.slice (some ⟨gb, ob + at_, none⟩) (at_ + nn - at_) (cb - at_)) pc := .inr ⟨gb, ob + at_, cb - at_, by rw [hpl, Nat.add_sub_cancel_left], by omega, by rw [hpl]; unfold maxLen; omega, Nat.lt_of_lt_of_le hB3 HI.out.bel.size, fun j hj => by
                rw [Nat.add_assoc]
                refine (HI.out.bel.cell (p := ⟨gb, ob + (at_ + j), none⟩) hB3).trans ((hB4 (at_ + j) (by omega)).trans ?_)
                rw [← hpc]
                have hjn : j < nn := by omega
                simp [hjn]⟩
              clear hB4
              have Hsv := Lib.hid hsv
              have Hpc := Lib.hid hpc
              have Hpl := Lib.hid hpl
              clear hsv hpc hpl
              go_wp2_with (at_builtin; go_must (refine wpList_append_wait rfl _ _ rfl wr.heap.size _ _ [] pc rfl (waitV_none wr (0, 0)) rfl (Hsv.out.below ((Below.refl _ _).alloc (Nat.le_refl _) _)) (by simp; have := Hpl.out; omega) (by simp) ?_))
              intro v7 w7 hv7 hg7 _
              try rw [List.nil_append] at hv7
              have hb7 : Below wr.heap.size wr w7 := ((Below.refl wr.heap.size wr).alloc (Nat.le_refl _) _).grown hg7 (by simp) (fun k hk => by cases hk; exact Nat.le_refl _)
              have HB7 := Lib.hid (HI.out.bel.trans (hb7.mono HI.out.bel.size))
              have HC7 := Lib.hid (HI.out.conn.below hb7)
              have HO7 := Lib.hid (HI.out.outv.apart (Apart.ofBelow (S := OwnC w.heap.size vr) hb7) (fun _ _ h => h))
              have HV7 := Lib.hid hv7.byts
              have hlw := HI.out.len
              clear hv7 hg7 hb7
              go_wp2_with fail
              refine (take_calls w w7 He.out HB7.out HC7.out (Nat.le_refl _) HV7.out (by have := Hpl.out; omega)).mono ?_
              rintro e9 w8 ⟨B8, x8, rs8, v8, rfl, hB8, hr8, hm8, hc8, hap8, how8, hfr8⟩
              generalize takeS lw false pc = T at *
              obtain ⟨T1, T2, T3, T4⟩ := T
              simp only at hm8 hc8 Hst ⊢
              subst hm8
              obtain ⟨p8, c8, rfl⟩ := hr8.forms
              have HB8 := Lib.hid (TakeOut.below HB7.out HC7.out (Nat.le_refl _) hap8)
              have HC8 := Lib.hid hc8
              have HO8 := Lib.hid (HO7.out.apart hap8 (S' := OwnC w.heap.size v8) (fun k hk h => h.imp id (fun h9 => (hfr8 k h9).resolve_right (by omega))))
              have HL8 := Lib.hid (hr8.outv (S := OwnC w.heap.size v8) how8)
              have hrl := run_len pre
              rw [Hst.out] at hrl
              simp only [List.length_append, List.length_map] at hrl
              have hprl := Hprl.out
              clear hB8 hr8 hc8 hap8 how8 hfr8
              go_wp2_with (at_builtin; go_must (refine wpList_append_reqs rfl _ _ rfl (OwnC w.heap.size v8) _ _ rs rs8 rfl HO8.out rfl HL8.out (by omega) (fun k hk => (HC8.out.own hk).2) ?_))
              intro v9 w9 ho9 hg9 hfr9
              have HN9 : ∀ k, v9.ownBlock = some k → w.heap.size ≤ k := fun k hk => by
                rcases hfr9 k hk with h | h
                · exact HI.out.new k h
                · exact Nat.le_trans HB8.out.size h
              have HN9 := Lib.hid HN9
              have HO9 := Lib.hid ho9
              have HC9 := Lib.hid (HC8.out.apart (Apart.ofGrown (S := fun k => (Value.slice po rs.length co).ownBlock = some k) hg9 (fun k hk => hk)) (fun k hk h => HO8.out.row k h hk))
              have HB9 := Lib.hid (HB8.out.grown hg9 HB8.out.size (fun k hk => HI.out.new k hk))
              clear ho9 hg9 hfr9
              go_wp2_with fail
              go_roundg (zs.length + 1 - (i + 1))
              case measure => have := Hk.out; omega
              case rel =>
                refine ⟨v8, rs ++ rs8, T2, at_ + nn, i + 1, T3, T4, rfl, rfl, by go_num, by go_num, ⟨HO9.out, HC9.out, HB9.out, by rw [Hpre.out, Hst.out, List.map_append], Hnn.out, by omega, fun h => Hend.out (by omega), fun h => ?_, by simp only [List.length_append]; omega, ?_⟩⟩
                · have h9 := (runA_end _ pre (Nat.le_refl _)).1
                  rw [Hst.out] at h9
                  exact (h9 h).1
                · exact HN9.out
        ·
          have hi4 : ¬ (i : Int) < zs.length := by omega
          go_upto_region 13 with fail
          obtain ⟨nn, hnn0⟩ : ∃ nn, b.length - at_ = nn := ⟨_, rfl⟩
          have hnn : at_ + nn ≤ b.length := by omega
          rw [hnn0]
          have hend : i = zs.length → at_ + nn = b.length := fun h => by omega
          clear hnn0
          have Hend := Lib.hid hend
          have Hnn := Lib.hid hnn
          clear hend
          have hw2 : IntKind.i64.wrap ((at_ : Int) + nn) = ((at_ + nn : Nat) : Int) := by rw [IntWalk.i64_in _ (by omega)]; omega
          obtain ⟨pc, hpc⟩ : ∃ pc, (b.drop at_).take nn = pc := ⟨_, rfl⟩
          have hpl : pc.length = nn := by rw [← hpc]; simp; omega
          have hst := HI.out.step nn
          rw [hpc] at hst
          obtain ⟨pre, hpre⟩ : ∃ pre, b.take (at_ + nn) = pre := ⟨_, rfl⟩
          rw [hpre] at hst
          have Hprl : Hid (pre.length = at_ + nn) := Lib.hid (by rw [← hpre]; simp; omega)
          have Hpre := Lib.hid hpre
          clear hpre
          have Hst := Lib.hid hst
          clear hst
          rcases HB.out with ⟨h9, h8⟩ | ⟨gb, ob, cb2, h9, hB1, hB2, hB3, hB4⟩
          ·
            subst h8
            cases h9
            obtain rfl : at_ = 0 := by simp at hnn; omega
            obtain rfl : nn = 0 := by simp at hnn; omega
            have hsv : BytS wr (.slice none 0 0) pc := .inl ⟨rfl, List.length_eq_zero_iff.1 hpl⟩
            have Hsv := Lib.hid hsv
            have Hpc := Lib.hid hpc
            have Hpl := Lib.hid hpl
            clear hsv hpc hpl
            go_wp2_with (at_builtin; go_must (refine wpList_append_wait rfl _ _ rfl wr.heap.size _ _ [] pc rfl (waitV_none wr (0, 0)) rfl (Hsv.out.below ((Below.refl _ _).alloc (Nat.le_refl _) _)) (by simp; have := Hpl.out; omega) (by simp) ?_))
            intro v7 w7 hv7 hg7 _
            try rw [List.nil_append] at hv7
            have hb7 : Below wr.heap.size wr w7 := ((Below.refl wr.heap.size wr).alloc (Nat.le_refl _) _).grown hg7 (by simp) (fun k hk => by cases hk; exact Nat.le_refl _)
            have HB7 := Lib.hid (HI.out.bel.trans (hb7.mono HI.out.bel.size))
            have HC7 := Lib.hid (HI.out.conn.below hb7)
            have HO7 := Lib.hid (HI.out.outv.apart (Apart.ofBelow (S := OwnC w.heap.size vr) hb7) (fun _ _ h => h))
            have HV7 := Lib.hid hv7.byts
            have hlw := HI.out.len
            clear hv7 hg7 hb7
            go_wp2_with fail
            refine (take_calls w w7 He.out HB7.out HC7.out (Nat.le_refl _) HV7.out (by have := Hpl.out; omega)).mono ?_
            rintro e9 w8 ⟨B8, x8, rs8, v8, rfl, hB8, hr8, hm8, hc8, hap8, how8, hfr8⟩
            generalize takeS lw false pc = T at *
            obtain ⟨T1, T2, T3, T4⟩ := T
            simp only at hm8 hc8 Hst ⊢
            subst hm8
            obtain ⟨p8, c8, rfl⟩ := hr8.forms
            have HB8 := Lib.hid (TakeOut.below HB7.out HC7.out (Nat.le_refl _) hap8)
            have HC8 := Lib.hid hc8
            have HO8 := Lib.hid (HO7.out.apart hap8 (S' := OwnC w.heap.size v8) (fun k hk h => h.imp id (fun h9 => (hfr8 k h9).resolve_right (by omega))))
            have HL8 := Lib.hid (hr8.outv (S := OwnC w.heap.size v8) how8)
            have hrl := run_len pre
            rw [Hst.out] at hrl
            simp only [List.length_append, List.length_map] at hrl
            have hprl := Hprl.out
            clear hB8 hr8 hc8 hap8 how8 hfr8
            go_wp2_with (at_builtin; go_must (refine wpList_append_reqs rfl _ _ rfl (OwnC w.heap.size v8) _ _ rs rs8 rfl HO8.out rfl HL8.out (by omega) (fun k hk => (HC8.out.own hk).2) ?_))
            intro v9 w9 ho9 hg9 hfr9
            have HN9 : ∀ k, v9.ownBlock = some k → w.heap.size ≤ k := fun k hk => by
              rcases hfr9 k hk with h | h
              · exact HI.out.new k h
              · exact Nat.le_trans HB8.out.size h
            have HN9 := Lib.hid HN9
            have HO9 := Lib.hid ho9
            have HC9 := Lib.hid (HC8.out.apart (Apart.ofGrown (S := fun k => (Value.slice po rs.length co).ownBlock = some k) hg9 (fun k hk => hk)) (fun k hk h => HO8.out.row k h hk))
            have HB9 := Lib.hid (HB8.out.grown hg9 HB8.out.size (fun k hk => HI.out.new k hk))
            clear ho9 hg9 hfr9
            go_wp2_with fail
            go_roundg (zs.length + 1 - (i + 1))
            case measure => have := Hk.out; omega
            case rel =>
              refine ⟨v8, rs ++ rs8, T2, 0 + 0, i + 1, T3, T4, rfl, rfl, by go_num, by go_num, ⟨HO9.out, HC9.out, HB9.out, by rw [Hpre.out, Hst.out, List.map_append], Hnn.out, by omega, fun h => Hend.out (by omega), fun h => ?_, by simp only [List.length_append]; omega, ?_⟩⟩
              · have h9 := (runA_end _ pre (Nat.le_refl _)).1
                rw [Hst.out] at h9
                exact (h9 h).1
              · exact HN9.out
          ·
            cases h9
            by_cases hca : cb = at_
            ·
              subst hca
              obtain rfl : nn = 0 := by omega
              have hsv : BytS wr (.slice (some ⟨gb, ob, none⟩) 0 0) pc := .inr ⟨gb, ob, 0, by rw [hpl], by omega, by omega, Nat.lt_of_lt_of_le hB3 HI.out.bel.size, fun j hj => by omega⟩
              clear hB4
              have Hsv := Lib.hid hsv
              have Hpc := Lib.hid hpc
              have Hpl := Lib.hid hpl
              clear hsv hpc hpl
              go_wp2_with (at_builtin; go_must (refine wpList_append_wait rfl _ _ rfl wr.heap.size _ _ [] pc rfl (waitV_none wr (0, 0)) rfl (Hsv.out.below ((Below.refl _ _).alloc (Nat.le_refl _) _)) (by simp; have := Hpl.out; omega) (by simp) ?_))
              intro v7 w7 hv7 hg7 _
              try rw [List.nil_append] at hv7
              have hb7 : Below wr.heap.size wr w7 := ((Below.refl wr.heap.size wr).alloc (Nat.le_refl _) _).grown hg7 (by simp) (fun k hk => by cases hk; exact Nat.le_refl _)
              have HB7 := Lib.hid (HI.out.bel.trans (hb7.mono HI.out.bel.size))
              have HC7 := Lib.hid (HI.out.conn.below hb7)
              have HO7 := Lib.hid (HI.out.outv.apart (Apart.ofBelow (S := OwnC w.heap.size vr) hb7) (fun _ _ h => h))
              have HV7 := Lib.hid hv7.byts
              have hlw := HI.out.len
              clear hv7 hg7 hb7
              go_wp2_with fail
              refine (take_calls w w7 He.out HB7.out HC7.out (Nat.le_refl _) HV7.out (by have := Hpl.out; omega)).mono ?_
              rintro e9 w8 ⟨B8, x8, rs8, v8, rfl, hB8, hr8, hm8, hc8, hap8, how8, hfr8⟩
              generalize takeS lw false pc = T at *
              obtain ⟨T1, T2, T3, T4⟩ := T
              simp only at hm8 hc8 Hst ⊢
              subst hm8
              obtain ⟨p8, c8, rfl⟩ := hr8.forms
              have HB8 := Lib.hid (TakeOut.below HB7.out HC7.out (Nat.le_refl _) hap8)
              have HC8 := Lib.hid hc8
              have HO8 := Lib.hid (HO7.out.apart hap8 (S' := OwnC w.heap.size v8) (fun k hk h => h.imp id (fun h9 => (hfr8 k h9).resolve_right (by omega))))
              have HL8 := Lib.hid (hr8.outv (S := OwnC w.heap.size v8) how8)
              have hrl := run_len pre
              rw [Hst.out] at hrl
              simp only [List.length_append, List.length_map] at hrl
              have hprl := Hprl.out
              clear hB8 hr8 hc8 hap8 how8 hfr8
              go_wp2_with (at_builtin; go_must (refine wpList_append_reqs rfl _ _ rfl (OwnC w.heap.size v8) _ _ rs rs8 rfl HO8.out rfl HL8.out (by omega) (fun k hk => (HC8.out.own hk).2) ?_))
              intro v9 w9 ho9 hg9 hfr9
              have HN9 : ∀ k, v9.ownBlock = some k → w.heap.size ≤ k := fun k hk => by
                rcases hfr9 k hk with h | h
                · exact HI.out.new k h
                · exact Nat.le_trans HB8.out.size h
              have HN9 := Lib.hid HN9
              have HO9 := Lib.hid ho9
              have HC9 := Lib.hid (HC8.out.apart (Apart.ofGrown (S := fun k => (Value.slice po rs.length co).ownBlock = some k) hg9 (fun k hk => hk)) (fun k hk h => HO8.out.row k h hk))
              have HB9 := Lib.hid (HB8.out.grown hg9 HB8.out.size (fun k hk => HI.out.new k hk))
              clear ho9 hg9 hfr9
              go_wp2_with fail
              go_roundg (zs.length + 1 - (i + 1))
              case measure => have := Hk.out; omega
              case rel =>
                refine ⟨v8, rs ++ rs8, T2, cb + 0, i + 1, T3, T4, rfl, rfl, by go_num, by go_num, ⟨HO9.out, HC9.out, HB9.out, by rw [Hpre.out, Hst.out, List.map_append], Hnn.out, by omega, fun h => Hend.out (by omega), fun h => ?_, by simp only [List.length_append]; omega, ?_⟩⟩
                · have h9 := (runA_end _ pre (Nat.le_refl _)).1
                  rw [Hst.out] at h9
                  exact (h9 h).1
                · exact HN9.out
            ·
              have hsv : BytS wr (.slice (some ⟨gb, ob + at_, none⟩) (at_ + nn - at_) (cb - at_)) pc := .inr ⟨gb, ob + at_, cb - at_, by rw [hpl, Nat.add_sub_cancel_left], by omega, by rw [hpl]; unfold maxLen; omega, Nat.lt_of_lt_of_le hB3 HI.out.bel.size, fun j hj => by
                rw [Nat.add_assoc]
                refine (HI.out.bel.cell (p := ⟨gb, ob + (at_ + j), none⟩) hB3).trans ((hB4 (at_ + j) (by omega)).trans ?_)
                rw [← hpc]
                have hjn : j < nn := by omega
                simp [hjn]⟩
              clear hB4
              have Hsv := Lib.hid hsv
              have Hpc := Lib.hid hpc
              have Hpl := Lib.hid hpl
              clear hsv hpc hpl
              go_wp2_with (at_builtin; go_must (refine wpList_append_wait rfl _ _ rfl wr.heap.size _ _ [] pc rfl (waitV_none wr (0, 0)) rfl (Hsv.out.below ((Below.refl _ _).alloc (Nat.le_refl _) _)) (by simp; have := Hpl.out; omega) (by simp) ?_))
              intro v7 w7 hv7 hg7 _
              try rw [List.nil_append] at hv7
              have hb7 : Below wr.heap.size wr w7 := ((Below.refl wr.heap.size wr).alloc (Nat.le_refl _) _).grown hg7 (by simp) (fun k hk => by cases hk; exact Nat.le_refl _)
              have HB7 := Lib.hid (HI.out.bel.trans (hb7.mono HI.out.bel.size))
              have HC7 := Lib.hid (HI.out.conn.below hb7)
              have HO7 := Lib.hid (HI.out.outv.apart (Apart.ofBelow (S := OwnC w.heap.size vr) hb7) (fun _ _ h => h))
              have HV7 := Lib.hid hv7.byts
              have hlw := HI.out.len
              clear hv7 hg7 hb7
              go_wp2_with fail
              refine (take_calls w w7 He.out HB7.out HC7.out (Nat.le_refl _) HV7.out (by have := Hpl.out; omega)).mono ?_
              rintro e9 w8 ⟨B8, x8, rs8, v8, rfl, hB8, hr8, hm8, hc8, hap8, how8, hfr8⟩
              generalize takeS lw false pc = T at *
              obtain ⟨T1, T2, T3, T4⟩ := T
              simp only at hm8 hc8 Hst ⊢
              subst hm8
              obtain ⟨p8, c8, rfl⟩ := hr8.forms
              have HB8 := Lib.hid (TakeOut.below HB7.out HC7.out (Nat.le_refl _) hap8)
              have HC8 := Lib.hid hc8
              have HO8 := Lib.hid (HO7.out.apart hap8 (S' := OwnC w.heap.size v8) (fun k hk h => h.imp id (fun h9 => (hfr8 k h9).resolve_right (by omega))))
              have HL8 := Lib.hid (hr8.outv (S := OwnC w.heap.size v8) how8)
              have hrl := run_len pre
              rw [Hst.out] at hrl
              simp only [List.length_append, List.length_map] at hrl
              have hprl := Hprl.out
              clear hB8 hr8 hc8 hap8 how8 hfr8
              go_wp2_with (at_builtin; go_must (refine wpList_append_reqs rfl _ _ rfl (OwnC w.heap.size v8) _ _ rs rs8 rfl HO8.out rfl HL8.out (by omega) (fun k hk => (HC8.out.own hk).2) ?_))
              intro v9 w9 ho9 hg9 hfr9
              have HN9 : ∀ k, v9.ownBlock = some k → w.heap.size ≤ k := fun k hk => by
                rcases hfr9 k hk with h | h
                · exact HI.out.new k h
                · exact Nat.le_trans HB8.out.size h
              have HN9 := Lib.hid HN9
              have HO9 := Lib.hid ho9
              have HC9 := Lib.hid (HC8.out.apart (Apart.ofGrown (S := fun k => (Value.slice po rs.length co).ownBlock = some k) hg9 (fun k hk => hk)) (fun k hk h => HO8.out.row k h hk))
              have HB9 := Lib.hid (HB8.out.grown hg9 HB8.out.size (fun k hk => HI.out.new k hk))
              clear ho9 hg9 hfr9
              go_wp2_with fail
              go_roundg (zs.length + 1 - (i + 1))
              case measure => have := Hk.out; omega
              case rel =>
                refine ⟨v8, rs ++ rs8, T2, at_ + nn, i + 1, T3, T4, rfl, rfl, by go_num, by go_num, ⟨HO9.out, HC9.out, HB9.out, by rw [Hpre.out, Hst.out, List.map_append], Hnn.out, by omega, fun h => Hend.out (by omega), fun h => ?_, by simp only [List.length_append]; omega, ?_⟩⟩
                · have h9 := (runA_end _ pre (Nat.le_refl _)).1
                  rw [Hst.out] at h9
                  exact (h9 h).1
                · exact HN9.out
    ·
      have hi2 : ¬ (i : Int) ≤ zs.length := by omega
      go_wp2_with fail
      refine (num_calls _ e).mono ?_
      rintro e9 w9 ⟨rfl, rfl⟩
      go_wp2_with fail
      refine (waiting_calls _ HI.out.conn).mono ?_
      rintro e9 w9 ⟨rfl, rfl⟩
      go_wp2_with fail
      refine bodyPost_ret (v := .tuple #[.slice po rs.length co, .int .i64 e, .int .i64 lw.length, .bool true]) (by simp [results, Tryz.results23, go_sem]) rfl ?_
      have hf := HI.out.fin (.inl (by omega))
      exact ⟨⟨_, rs, by rw [hf], HI.out.outv.reqs, by rw [hf]⟩, HI.out.bel⟩
end Go.Proofs.YtgdfgppgfkkncaaGreatDoor
