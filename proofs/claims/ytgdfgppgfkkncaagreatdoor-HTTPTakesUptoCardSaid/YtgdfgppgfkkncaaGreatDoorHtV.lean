/- The walk of Take. -/
import Derived.Test.YtgdfgppgfkkncaaGreatDoorHtT
namespace Go.Proofs.YtgdfgppgfkkncaaGreatDoor
open Go.RowKit

theorem Apart.mono {S S' : Nat → Prop} {w w' : World} (h : Apart S w w') (hs : ∀ k, S k → S' k) : Apart S' w w' := ⟨h.os, h.tape, h.output, h.size, fun k hk hn => h.block k hk (fun e => hn (hs k e))⟩
theorem nextS_err_ne {w : List UInt8} {e : Int} (h : nextS w = .err e) : e ≠ 0 := by
  unfold nextS at h
  split at h
  · split at h
    · cases h; decide
    · cases h
  · simp only at h
    split at h
    · cases h; assumption
    · split at h <;> cases h
theorem takeS_dead (l p : List UInt8) : takeS l true p = ([], 10, l, true) := rfl
theorem takeS_live (l p : List UInt8) : takeS l false p = runA (l ++ p) := rfl
/-- What Take answers: its requests lie behind the connection's blocks. -/
def TakeOut (w : World) (C : Nat) (v : Value) (l : List UInt8) (d : Bool) (m : List UInt8) (e : Ending) (w' : World) : Prop :=
  ∃ B x rs v', e = .returned (.tuple #[x, .int .i64 (takeS l d m).2.1]) ∧ w.heap.size ≤ B ∧ ReqsV w' B x rs ∧ rs.map (·.1) = (takeS l d m).1 ∧ ConnAt w' C v' (takeS l d m).2.2.1 (takeS l d m).2.2.2 ∧ Apart (OwnC C v) w w' ∧ (∀ k, OwnC C v' k → k < B) ∧ ∀ k, v'.ownBlock = some k → v.ownBlock = some k ∨ w.heap.size ≤ k
/-- Between two rounds of Take. -/
structure TInv (w1 wr : World) (C : Nat) (v1 : Value) (l1 : List UInt8) (lv : Value) (rs : List ReqR) (lw : List UInt8) (vr : Value) (dd : Bool) : Prop where
  reqs : ReqsV wr w1.heap.size lv rs
  conn : ConnAt wr C vr lw dd
  apart : Apart (OwnC C v1) w1 wr
  own : ∀ k, vr.ownBlock = some k → v1.ownBlock = some k
  live : dd = false → runA l1 = (rs.map (·.1) ++ (runA lw).1, (runA lw).2)
  dead : dd = true → runA l1 = (rs.map (·.1), 0, [], true) ∧ lw = []
  len : rs.length + lw.length ≤ l1.length
theorem TInv.out {w1 wr : World} {C : Nat} {v1 : Value} {l1 : List UInt8} {lv : Value} {rs : List ReqR} {lw : List UInt8} {vr : Value} {dd : Bool} (h : TInv w1 wr C v1 l1 lv rs lw vr dd)
    {w : World} {v : Value} {l m : List UInt8} (hl : l ++ m = l1) (hc1 : ∀ k, OwnC C v1 k → k < w1.heap.size) (hap : Apart (OwnC C v) w w1) (hown : ∀ k, v1.ownBlock = some k → v.ownBlock = some k ∨ w.heap.size ≤ k)
    {e : Int} {w' : World} {x : Value} {v' : Value} {rest : List UInt8} {d' : Bool} (hrun : runA l1 = (rs.map (·.1), e, rest, d')) (hw : Apart (OwnC C vr) wr w') (hx : x = lv) (hc : ConnAt w' C v' rest d') (hv' : ∀ k, v'.ownBlock = some k → vr.ownBlock = some k) :
    TakeOut w C v l false m (.returned (.tuple #[x, .int .i64 e])) w' := by
  subst hl hx
  have hC : C < w1.heap.size := hc1 C (.inl rfl)
  have hS : ∀ i, OwnC C vr i → OwnC C v1 i := fun i hi => hi.imp id (h.own i)
  have hap2 : Apart (OwnC C v1) w1 w' := h.apart.trans hw (fun i _ hi => hS i hi)
  refine ⟨w1.heap.size, x, rs, v', by rw [takeS_live, hrun], hap.size, h.reqs.apart hw (fun k hk _ hi => by have := hc1 k (hS k hi); omega), by rw [takeS_live, hrun], by rw [takeS_live, hrun]; exact hc, hap.trans hap2 (fun i hi h9 => ?_), fun k hk => hc1 k (hk.imp id (fun h9 => h.own k (hv' k h9))), fun k hk => hown k (h.own k (hv' k hk))⟩
  rcases h9 with h9 | h9
  · exact .inl h9
  · rcases hown i h9 with h8 | h8
    · exact .inr h8
    · omega
set_option maxHeartbeats 4000000 in
set_option maxRecDepth 100000 in
theorem take_calls (w0 w : World) (he : Env w0) (hw : Below w0.heap.size w0 w) {C : Nat} {v x : Value} {l m : List UInt8} {d : Bool} (h : ConnAt w C v l d) (hC : w0.heap.size ≤ C) (hx : BytS w x m) (hlen : l.length + m.length ≤ 100000000) :
    Calls Tryz.prog 12 #[.pointer (some ⟨C, 0, none⟩), x] w (TakeOut w C v l d m) := by
  have c2 := h.row.cell 2 _ rfl
  have hn := none_calls w h
  have H := Lib.hid h
  have Hx := Lib.hid hx
  have He := Lib.hid he
  clear h hx he
  go_enter Tryz.func12, Tryz.ntmps12
  go_wp2_with fail
  refine hn.mono ?_
  rintro e w' ⟨rfl, rfl⟩
  clear hn
  cases d with
  | true =>
    go_wp2_with fail
    go_ret2
    exact ⟨w.heap.size, _, [], v, rfl, Nat.le_refl _, ReqsV.nil _ _, rfl, H.out, Apart.refl _ _, fun k hk => (H.out.own hk).2, fun k hk => .inl hk⟩
  | false =>
    go_wp2_with fail
    refine (put_calls w H.out Hx.out hlen).mono ?_
    rintro e w1 ⟨rfl, v1, hc1, hap1, hown1⟩
    obtain ⟨l1, hl1⟩ : ∃ y, l ++ m = y := ⟨_, rfl⟩
    rw [hl1] at hc1
    have hl1l : l1.length ≤ 100000000 := by rw [← hl1, List.length_append]; exact hlen
    have hinv0 : TInv w1 w1 C v1 l1 (.slice none 0 0) [] l1 v1 false := ⟨ReqsV.nil _ _, hc1, Apart.refl _ _, fun _ h => h, fun _ => by simp, (by intro h; cases h), by simp⟩
    have HI0 := Lib.hid hinv0
    have HV1 : Hid (∀ k, OwnC C v1 k → C ≤ k) := fun k hk => (hc1.own hk).1
    have HC1 : Hid (∀ k, OwnC C v1 k → k < w1.heap.size) := fun k hk => (hc1.own hk).2
    have HA1 := Lib.hid hap1
    have HO1 := Lib.hid hown1
    have HL1 := Lib.hid hl1
    have Hb1 : Hid (Below w0.heap.size w0 w1) := hw.trans (hap1.below hw.size (fun i hi h9 => by have := (H.out.own h9).1; omega))
    clear hinv0 hc1 hap1 hown1 hl1 c2
    go_wp2_with fail
    go_loopg [6] (l1.length + 1) (fun k i wr => ∃ rs lw vr dd, k = (if dd = true then 0 else lw.length + 1) ∧ TInv w1 wr C v1 l1 i rs lw vr dd)
    case atStart => exact ⟨[], l1, v1, false, rfl, HI0.out⟩
    case round =>
      obtain ⟨rs, lw, vr, dd, hk, hinv⟩ := hrel
      have HI := Lib.hid hinv
      have c2 := hinv.conn.row.cell 2 _ rfl
      clear hinv HI0
      cases dd with
      | true =>
        obtain ⟨p, cp, rfl⟩ := HI.out.reqs.forms
        go_wp2_with fail
        go_ret2
        obtain ⟨h1, h2⟩ := HI.out.dead rfl
        exact HI.out.out HL1.out HC1.out HA1.out HO1.out h1 (Apart.refl _ _) rfl (by rw [← h2]; exact HI.out.conn) (fun _ h => h)
      | false =>
        have Hk := Lib.hid hk
        have Hbr : Hid (Below w0.heap.size w0 wr) := Hb1.out.trans (HI.out.apart.below Hb1.out.size (fun i hi h9 => by have := HV1.out i h9; omega))
        have hCB : C < w1.heap.size := HC1.out C (.inl rfl)
        have hll := HI.out.len
        obtain ⟨p, cp, rfl⟩ := HI.out.reqs.forms
        go_wp2_with fail
        refine (next_calls wr (He.out.below Hbr.out) HI.out.conn (by omega)).mono ?_
        rintro e w2 ⟨x2, v2, rfl, hx2, hc2, hap2, hown2⟩
        obtain ⟨hv, bv, rfl, hh, hb⟩ := hx2
        obtain ⟨p1, cp1, rfl⟩ := hh.forms
        obtain ⟨p2, cp2, rfl⟩ := hb.forms
        obtain ⟨nx, hN⟩ : ∃ nx, nextS lw = nx := ⟨_, rfl⟩
        simp only [hN] at hh hb hc2 ⊢
        have HN := Lib.hid hN
        have R2 := Lib.hid (HI.out.reqs.apart hap2 (fun k hk _ e => by omega))
        have HP2 : Hid (Apart (OwnC C vr) wr w2) := hap2.mono (fun k hk => .inl hk)
        have HO2 := Lib.hid hown2
        have hsz2 : w1.heap.size ≤ w2.heap.size := Nat.le_trans HI.out.apart.size hap2.size
        have hszr : w1.heap.size ≤ wr.heap.size := HI.out.apart.size
        clear hN hap2 hown2 c2
        cases nx with
        | err e2 =>
          simp only [Next.vals, Next.rest, Req.zero, List.length_nil] at hh hb hc2 ⊢
          have hne := nextS_err_ne HN.out
          have hne2 : (e2 != 0) = true := by rw [bne_iff_ne]; exact hne
          have H3 := Lib.hid (hc2.below (w' := w2.alloc (Obj.cells #[Value.string { data := #[] }, Value.string { data := #[] }, Value.string { data := #[] }, Value.slice p1 0 cp1, Value.slice p2 0 cp2, Value.bool false] 40)) ((Below.refl _ _).alloc (Nat.le_refl _) _))
          have HP3 : Hid (Apart (OwnC C vr) wr (w2.alloc (Obj.cells #[Value.string { data := #[] }, Value.string { data := #[] }, Value.string { data := #[] }, Value.slice p1 0 cp1, Value.slice p2 0 cp2, Value.bool false] 40))) := HP2.out.trans (Apart.ofBelow (S := OwnC C vr) ((Below.refl _ _).alloc (Nat.le_refl _) _)) (fun _ _ h => h)
          clear hh hb hc2 hne
          go_wp2_with fail
          refine (shut_calls _ H3.out).mono ?_
          rintro e w4 ⟨rfl, hc4, hap4⟩
          have HC4 := Lib.hid hc4
          have HP4 := Lib.hid (HP3.out.trans hap4 (fun i _ hi => hi.imp id (fun h9 => by rw [← HO2.out]; exact h9)))
          clear hc4 hap4
          go_wp2_with fail
          go_ret2
          exact HI.out.out HL1.out HC1.out HA1.out HO1.out (by rw [HI.out.live rfl, runA_err HN.out, List.append_nil]) HP4.out rfl HC4.out (fun k hk => by cases hk)
        | more =>
          simp only [Next.vals, Next.rest, Req.zero, List.length_nil] at hh hb hc2 ⊢
          have H3 := Lib.hid (hc2.below (w' := w2.alloc (Obj.cells #[Value.string { data := #[] }, Value.string { data := #[] }, Value.string { data := #[] }, Value.slice p1 0 cp1, Value.slice p2 0 cp2, Value.bool false] 40)) ((Below.refl _ _).alloc (Nat.le_refl _) _))
          have HP3 : Hid (Apart (OwnC C vr) wr (w2.alloc (Obj.cells #[Value.string { data := #[] }, Value.string { data := #[] }, Value.string { data := #[] }, Value.slice p1 0 cp1, Value.slice p2 0 cp2, Value.bool false] 40))) := HP2.out.trans (Apart.ofBelow (S := OwnC C vr) ((Below.refl _ _).alloc (Nat.le_refl _) _)) (fun _ _ h => h)
          clear hh hb hc2
          go_wp2_with fail
          go_ret2
          exact HI.out.out HL1.out HC1.out HA1.out HO1.out (by rw [HI.out.live rfl, runA_more HN.out, List.append_nil]) HP3.out rfl H3.out (fun k hk => by rw [← HO2.out]; exact hk)
        | got q r =>
          simp only [Next.vals, Next.rest] at hh hb hc2 ⊢
          have hsh := nextS_short HN.out
          have hgot := runA_got HN.out
          have Hgot := Lib.hid hgot
          obtain ⟨cl, hcl⟩ : ∃ b, q.close = b := ⟨_, rfl⟩
          have Hcl := Lib.hid hcl
          have HH := Lib.hid hh
          have HB := Lib.hid hb
          have HC2 := Lib.hid hc2
          have RQ3 := Lib.hid (RowAt.new w2 #[Value.string { data := q.method.toArray }, Value.string { data := q.path.toArray }, Value.string { data := q.query.toArray }, Value.slice p1 q.headers.length cp1, Value.slice p2 q.body.length cp2, Value.bool q.close] 40)
          clear hcl hgot hh hb hc2
          go_wp2_with (at_builtin; go_must (refine wpList_append_req rfl _ _ rfl w1.heap.size _ rs rfl ?hown (q, .slice p1 q.headers.length cp1, .slice p2 q.body.length cp2) ?hh ?hb _ rfl ?hG ?hlen ?hbase ?_))
          case hlen => omega
          case hbase => first | omega | (simp; omega)
          case hown => exact R2.out.below ((Below.refl _ _).alloc (Nat.le_refl _) _)
          case hh => exact HdrV.le (ownsRow_apart (S := fun _ => False) HH.out (.ofBelow ((Below.refl _ _).alloc (Nat.le_refl _) _)) (fun _ _ h => h)) hszr
          case hb => exact (BytV.le (ownsRow_apart (S := fun _ => False) HB.out (.ofBelow ((Below.refl _ _).alloc (Nat.le_refl _) _)) (fun _ _ h => h)) hszr).bod
          intro lv' w5 hreq hg
          have hlv : ∀ k, (Value.slice p rs.length cp).ownBlock = some k → w1.heap.size ≤ k ∧ k < w2.heap.size := fun k hk => World.ownsRow.lt R2.out.row k hk
          have HA5 : Hid (Apart (fun k => w1.heap.size ≤ k) w2 w5) := ((Apart.ofBelow (S := fun k => w1.heap.size ≤ k) ((Below.refl _ _).alloc (Nat.le_refl _) _)).trans (Apart.ofBelow (S := fun k => w1.heap.size ≤ k) ((Below.refl _ _).alloc (Nat.le_refl _) _)) (fun _ _ h => h)).trans (Apart.ofGrown (S := fun k => w1.heap.size ≤ k) hg (fun k hk => (hlv k hk).1)) (fun _ _ h => h)
          have HV2 : Hid (∀ k, OwnC C v2 k → k < w1.heap.size) := fun k hk => HC1.out k (hk.imp id (fun h9 => HI.out.own k (by rw [← HO2.out]; exact h9)))
          have H5 := Lib.hid (HC2.out.apart HA5.out (fun k hk => by have := HV2.out k hk; omega))
          have RQ5 := Lib.hid ((RQ3.out.alloc _).grown hg (fun e => by have := (hlv _ e.symm).2; omega))
          have HR5 := Lib.hid hreq
          have k5 := RQ5.out.cell 5 _ rfl
          have HAp5 : Hid (Apart (OwnC C v1) w1 w5) := (HI.out.apart.trans HP2.out (fun i _ hi => hi.imp id (HI.out.own i))).trans HA5.out (fun i hi h9 => by omega)
          clear hlv hreq hg
          rw [Hcl.out] at k5
          cases cl with
          | true =>
            go_wp2_with fail
            refine (shut_calls w5 H5.out).mono ?_
            rintro e w6 ⟨rfl, hc6, hap6⟩
            have HC6 := Lib.hid hc6
            have HAp6 := Lib.hid hap6
            clear hc6 hap6
            go_wp2_with fail
            go_roundg 0
            case measure => rw [Hk.out]; simp
            case rel =>
              refine ⟨rs ++ [(q, .slice p1 q.headers.length cp1, .slice p2 q.body.length cp2)], [], .slice none 0 0, true, rfl, HR5.out.apart HAp6.out (fun k hk _ h9 => by have := HV2.out k h9; omega), HC6.out, HAp5.out.trans HAp6.out (fun i _ hi => hi.imp id (fun h9 => HI.out.own i (by rw [← HO2.out]; exact h9))), fun k hk => (by cases hk), fun h => (by cases h), fun _ => ⟨?_, rfl⟩, ?_⟩
              · rw [HI.out.live rfl, Hgot.out, Hcl.out]
                simp
              · simp; omega
          | false =>
            go_wp2_with fail
            go_roundg (r.length + 1)
            case measure => rw [Hk.out]; simp; omega
            case rel =>
              refine ⟨rs ++ [(q, .slice p1 q.headers.length cp1, .slice p2 q.body.length cp2)], r, v2, false, rfl, HR5.out, H5.out, HAp5.out, fun k hk => HI.out.own k (by rw [← HO2.out]; exact hk), fun _ => ?_, fun h => (by cases h), ?_⟩
              · rw [HI.out.live rfl, Hgot.out, Hcl.out]
                simp
              · simp; omega
end Go.Proofs.YtgdfgppgfkkncaaGreatDoor
