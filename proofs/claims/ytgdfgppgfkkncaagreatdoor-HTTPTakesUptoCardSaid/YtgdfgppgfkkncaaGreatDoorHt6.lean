/- The walk of Head. Printed by gen_head.py. -/
import Derived.Test.YtgdfgppgfkkncaaGreatDoorHt5
import Derived.Test.YtgdfgppgfkkncaaGreatDoorHtA
namespace Go.Proofs.YtgdfgppgfkkncaaGreatDoor
open Go.RowKit

attribute [local go_sem] Oper.semAt_some
/-- What Head answers: the request's headers are a row of the call's own, or nil. -/
def HeadOut (s : List UInt8) (B : Nat) (e : Ending) (w' : World) : Prop := ∃ hv, HdrV w' B hv (headS s).1.headers ∧ e = .returned (.tuple #[.agg #[.string ⟨(headS s).1.method.toArray⟩, .string ⟨(headS s).1.path.toArray⟩, .string ⟨(headS s).1.query.toArray⟩, hv, .slice none 0 0, .bool (headS s).1.close], .int .i64 (headS s).2.1, .int .i64 (headS s).2.2])
theorem headS_no {s : List UInt8} (h : ¬ (Lib.index s ends = (s.length : Int) - 4 ∧ 4 ≤ s.length)) : headS s = (Req.zero, 0, 380) := by unfold headS; rw [if_neg h]
theorem leaves_none {P : Program} {fn : Func} {tmps : Array Value} {R : Ending → World → Prop} {w : World} (h : ∃ v, (results fn tmps).run P w = .ok v w ∧ R (.returned v) w) : LeavesInM Fence.wide 5 P fn tmps R [] .returning w := h
theorem leaves_none2 {P : Program} {fn : Func} {tmps : Array Value} {R : Ending → World → Prop} {w : World} {n : Nat} (h : ∃ v, (results fn tmps).run P w = .ok v w ∧ R (.returned v) w) : LeavesIn Fence.wide n P fn tmps R [] .returning w := h
theorem valuesS_le (hs : List Hdr) (n : List UInt8) : (valuesS hs n).length ≤ hs.length := by
  unfold valuesS; rw [List.length_map]; exact List.length_filter_le _ _
theorem headersS_mem : ∀ (r : List (List UInt8)) (hs : List Hdr), headersS r = some hs → ∀ h ∈ hs, ∃ x ∈ r, headerS x = some h := by
  intro r
  induction r with
  | nil => intro hs h1 h hh; simp [headersS] at h1; subst h1; cases hh
  | cons a t ih =>
    intro hs h1 h hh
    simp only [headersS] at h1
    cases ha : headerS a with
    | none => rw [ha] at h1; cases h1
    | some d =>
      rw [ha] at h1
      cases ht : headersS t with
      | none => rw [ht] at h1; cases h1
      | some ds =>
        rw [ht] at h1
        injection h1 with h1
        subst h1
        rcases List.mem_cons.1 hh with rfl | hh
        · exact ⟨a, List.mem_cons_self, ha⟩
        · obtain ⟨x, hx, he⟩ := ih ds ht h hh
          exact ⟨x, List.mem_cons_of_mem _ hx, he⟩
theorem header_len (s : List UInt8) : (hdrD (headerS s)).1.name.length ≤ s.length ∧ (hdrD (headerS s)).1.value.length ≤ s.length := by
  have hl := side_len 58 s
  by_cases h : (sideS 58 s).2.2 = true ∧ (sideS 58 s).1 ≠ [] ∧ (sideS 58 s).1.all tkB = true ∧ (sideS 58 s).2.1.all vaB = true
  · rw [hdrD_yes h]
    have := trimS_len (sideS 58 s).2.1
    simp [smallS]; omega
  · rw [hdrD_no h]; simp
theorem last_len (r : List (List UInt8)) (hs : List Hdr) (h : headersS r = some hs) (N : Nat) (hN : ∀ p ∈ r, p.length ≤ N) : ((valuesS hs nLength).getLastD []).length ≤ N := by
  have hv : ∀ v ∈ valuesS hs nLength, v.length ≤ N := by
    intro v hv
    unfold valuesS at hv
    obtain ⟨d, hd, rfl⟩ := List.mem_map.1 hv
    obtain ⟨x, hx, he⟩ := headersS_mem r hs h d (List.mem_filter.1 hd).1
    have h1 := (header_len x).2
    rw [he] at h1
    exact Nat.le_trans h1 (hN x hx)
  cases hl : valuesS hs nLength with
  | nil => simp
  | cons a t =>
    rw [hl] at hv
    rw [List.getLastD_cons]
    have := hv ((t.getLastD a)) (by
      cases t with
      | nil => simp
      | cons b t => rw [List.getLastD_eq_getLast?]; simp [List.getLast?_eq_some_getLast])
    exact this
theorem HdrV.le {w : World} {B B' : Nat} {v : Value} {hs : List Hdr} (h : HdrV w B v hs) (hb : B' ≤ B) : HdrV w B' v hs := by
  rcases h.2 with ⟨hn, h2⟩ | ⟨g', cap, cur, e1, h1, h3⟩
  · exact ⟨h.1, .inl ⟨hn, h2⟩⟩
  · exact ⟨h.1, .inr ⟨g', cap, cur, e1, Nat.le_trans hb h1, h3⟩⟩
theorem HdrV.form {w : World} {B : Nat} {v : Value} {hs : List Hdr} (h : HdrV w B v hs) (hp : 0 < hs.length) : ∃ g cap, v = .slice (some ⟨g, 0, none⟩) hs.length cap := by
  rcases h.2 with ⟨hn, h2⟩ | ⟨g', cap, cur, e, _⟩
  · omega
  · exact ⟨g', cap, e⟩
set_option maxHeartbeats 4000000 in
set_option maxRecDepth 100000 in
theorem head_calls (w : World) (he : Env w) (v : Value) (s : List UInt8) (hv : BytS w v s) (hs : s.length ≤ 100000000) :
    Calls Tryz.prog 19 #[v] w fun e w' => HeadOut s w.heap.size e w' ∧ Below w.heap.size w w' := by
  have hb1 : Below w.heap.size w (w.alloc (Obj.cells #[Value.string { data := #[] }, Value.string { data := #[] }, Value.string { data := #[] }, Value.slice none 0 0, Value.slice none 0 0, Value.bool false] 40)) := (Below.refl _ _).alloc (Nat.le_refl _) _
  have RG1 := Lib.hid (RowAt.new w #[Value.string { data := #[] }, Value.string { data := #[] }, Value.string { data := #[] }, Value.slice none 0 0, Value.slice none 0 0, Value.bool false] 40)
  have He0 := Lib.hid he
  have He1 := Lib.hid (he.below hb1)
  have hbel1 := hb1
  have hv1 := hv.below hb1
  have Hv1 := Lib.hid hv1
  clear hb1 he hv hv1
  refine calls_marks Tryz.func19 rfl (fun Q0 hret hgo0 => ?_)
  simp only [Tryz.ntmps19, List.size_toArray, List.length_cons, List.length_nil, Nat.reduceAdd, Nat.reduceSub, Array.replicate_succ, Array.replicate_zero, List.push_toArray, List.append_toArray, List.nil_append, List.cons_append]
  have Hret0 := Lib.hid hret
  have Hgo0 := Lib.hid hgo0
  clear hret hgo0
  go_wp2_with fail
  generalize w.alloc (Obj.cells #[Value.string { data := #[] }, Value.string { data := #[] }, Value.string { data := #[] }, Value.slice none 0 0, Value.slice none 0 0, Value.bool false] 40) = w1 at *
  refine wp_scope_on 0 rfl Hgo0.out (fun Qj hgo hret2 => ?_)
  have Hgo := Lib.hid hgo
  have Hret : Hid (∀ a wz, LeavesInM Fence.wide 5 Tryz.prog Tryz.f19 a.tmps (fun e w' => HeadOut s w.heap.size e w' ∧ Below w.heap.size w w') a.defers .returning wz → Qj .ret a wz) := fun a wz h => hret2 a wz (Hret0.out a wz h)
  clear hgo hret2 Hgo0
  have hstr := Hv1.out.string
  go_wp2_with fail
  clear hstr Hv1
  obtain ⟨ml, hml⟩ := He1.out.maxLen
  have hIx := same (Tryz.strings_Index ⟨s.toArray⟩ ⟨#[13, 10, 13, 10]⟩ ml w1 (by simp [ByteArray.size]; omega) hml)
  rw [show Lib.index (⟨s.toArray⟩ : ByteArray).data.toList (⟨#[13, 10, 13, 10]⟩ : ByteArray).data.toList = Lib.index s ends from rfl] at hIx
  refine hIx.mono ?_
  rintro e w9 ⟨rfl, rfl⟩
  clear hIx hml
  have hI : Hid (¬ (Lib.index s ends = (s.length : Int) - 4 ∧ 4 ≤ s.length) → headS s = (Req.zero, 0, 380)) := headS_no
  generalize hix : Lib.index s ends = ix at *
  have Hix := Lib.hid hix
  clear hix
  by_cases hA : ix = (s.length : Int) - 4
  ·
    by_cases hB : 4 ≤ s.length
    ·
      subst hA
      clear hI
      have hext : (⟨s.toArray⟩ : ByteArray).extract 0 (s.length - 4) = ⟨(s.take (s.length - 4)).toArray⟩ := by rw [Lib.extract_eq]; simp
      obtain ⟨l0, r, hlr⟩ : ∃ l0 r, cut2 13 10 [] (s.take (s.length - 4)) = l0 :: r := by
        cases h9 : cut2 13 10 [] (s.take (s.length - 4)) with
        | nil => exact absurd h9 (cut2_ne _ _ _ _)
        | cons a b => exact ⟨a, b, rfl⟩
      have hpl : ∀ p ∈ l0 :: r, p.length ≤ s.length := fun p hp => by
        rw [← hlr] at hp
        have := cut2_len 13 10 _ [] p hp
        simp at this; omega
      have hcl : (l0 :: r).length ≤ s.length + 1 := by
        rw [← hlr]
        have h9 := cut2_count 13 10 (s.take (s.length - 4)) []
        simp at h9; omega
      have HT : Hid (headS s = headT s l0 r) := headS_yes Hix.out hB hlr
      have Hpl := Lib.hid hpl
      have Hlr := Lib.hid hlr
      clear hlr hpl Hix
      have RC2 := Lib.hid (RowAt.new w1 #[Value.int IntKind.i64 0, Value.int IntKind.i64 0, Value.int IntKind.i64 0, Value.string { data := #[] }] 78)
      have hb2 : Below w1.heap.size w1 (w1.alloc (Obj.cells #[Value.int IntKind.i64 0, Value.int IntKind.i64 0, Value.int IntKind.i64 0, Value.string { data := #[] }] 78)) := (Below.refl _ _).alloc (Nat.le_refl _) _
      have RG2 := Lib.hid (RG1.out.below hb2)
      have He2 := Lib.hid (He1.out.below hb2)
      have hbel2 := hbel1.trans (hb2.mono hbel1.size)
      have hbase : w.heap.size < w1.heap.size := RG1.out.lt
      clear RG1 He1 hb2
      go_wp2_with fail
      clear hext
      generalize w1.alloc (Obj.cells #[Value.int IntKind.i64 0, Value.int IntKind.i64 0, Value.int IntKind.i64 0, Value.string { data := #[] }] 78) = w2 at *
      have Hc2 := Lib.hid RC2.out.lt
      refine (split_calls w2 He2.out (s.take (s.length - 4)) [13, 10] (by simp; omega) (by simp)).mono ?_
      rintro e w3 ⟨rfl, hw3⟩
      rw [split_cut2 13 10 _ _ (Nat.le_refl _), Hlr.out] at hw3 ⊢
      have hb3 : Below w2.heap.size w2 w3 := by rw [hw3]; exact (Below.refl _ _).alloc (Nat.le_refl _) _
      have RL3 : Hid (RowAt w3 w2.heap.size (strs (l0 :: r))) := by show RowAt w3 _ _; rw [hw3]; exact RowAt.new w2 (strs (l0 :: r)).toArray 9
      have RG3 := Lib.hid (RG2.out.below hb3)
      have RC3 := Lib.hid (RC2.out.below hb3)
      have He3 := Lib.hid (He2.out.below hb3)
      have hbel3 := hbel2.trans (hb3.mono hbel2.size)
      clear RG2 RC2 He2 hb3
      clear hw3 Hlr
      have k0 := RL3.out.cell 0 _ rfl
      have hlen0 : (0 : Nat) < (l0 :: r).length := by simp
      have hl0 := Hpl.out l0 (by simp)
      simp only [List.length_cons] at hcl hlen0 ⊢
      go_wp2_with fail
      refine (first_calls w3 He3.out l0 (by omega)).mono ?_
      rintro e w4 ⟨rfl, hb4⟩
      clear k0
      have RG4 := Lib.hid (RG3.out.below hb4)
      have RC4 := Lib.hid (RC3.out.below hb4)
      have RL4 := Lib.hid (RL3.out.below hb4)
      have He4 := Lib.hid (He3.out.below hb4)
      have hbel4 := hbel3.trans (hb4.mono hbel3.size)
      clear RG3 RC3 RL3 He3 hb4
      have HTt : Hid (headT s l0 r = if 16384 < s.length then (Req.zero, 0, 382) else if (firstS l0).2 ≠ 0 then (Req.zero, 0, (firstS l0).2) else if 100 < r.length then (Req.zero, 0, 382) else match headersS r with | none => (Req.zero, 0, 380) | some hs => if (countS hs).2 ≠ 0 then (Req.zero, 0, (countS hs).2) else (⟨(firstS l0).1.1, (firstS l0).1.2.1, (firstS l0).1.2.2, hs, [], (valuesS hs nConn).any closesS⟩, (countS hs).1, 0)) := rfl
      have HT2 : Hid (headS s = headT s l0 r) := HT.out
      rw [HTt.out] at HT2
      clear HT HTt
      generalize firstS l0 = fs at *
      obtain ⟨⟨m, u, q⟩, er⟩ := fs
      simp only at HT2 ⊢
      have RQ5 := Lib.hid (RowAt.new w4 #[Value.string { data := m.toArray }, Value.string { data := u.toArray }, Value.string { data := q.toArray }, Value.slice none 0 0, Value.slice none 0 0, Value.bool false] 40)
      have hb5 : Below w4.heap.size w4 (w4.alloc (Obj.cells #[Value.string { data := m.toArray }, Value.string { data := u.toArray }, Value.string { data := q.toArray }, Value.slice none 0 0, Value.slice none 0 0, Value.bool false] 40)) := (Below.refl _ _).alloc (Nat.le_refl _) _
      have Hc4 := Lib.hid RC4.out.lt
      have HL4 := Lib.hid RL4.out.lt
      have Hg4 := Lib.hid RG4.out.lt
      have RG5 := Lib.hid (RG4.out.below hb5)
      have RC5 := Lib.hid (RC4.out.below hb5)
      have RL5 := Lib.hid (RL4.out.below hb5)
      have He5 := Lib.hid (He4.out.below hb5)
      have hbel5 := hbel4.trans (hb5.mono hbel4.size)
      clear RG4 RC4 RL4 He4
      clear hb5
      by_cases hbig : 16384 < s.length
      ·
        have HF : Hid (headS s = (Req.zero, 0, 382)) := by show headS s = _; rw [HT2.out, if_pos hbig]
        have hbig2 : (16384 : Int) < s.length := by omega
        have c0 := RG5.out.cell 0 _ rfl
        have f0 := RG5.out.free 0
        have c1 := RG5.out.cell 1 _ rfl
        have f1 := RG5.out.free 1
        have c2 := RG5.out.cell 2 _ rfl
        have f2 := RG5.out.free 2
        have c3 := RG5.out.cell 3 _ rfl
        have f3 := RG5.out.free 3
        have c4 := RG5.out.cell 4 _ rfl
        have f4 := RG5.out.free 4
        have c5 := RG5.out.cell 5 _ rfl
        have f5 := RG5.out.free 5
        clear RG5 RC5 RL5 RQ5 He5
        go_wp2_with fail
        go_step3
        refine Hgo.out _ _ ?_
        go_wp2_with fail
        refine Hret0.out _ _ ?_
        refine leaves_none ⟨.tuple #[.agg #[.string ⟨#[]⟩, .string ⟨#[]⟩, .string ⟨#[]⟩, .slice none 0 0, .slice none 0 0, .bool false], .int .i64 0, .int .i64 382], by simp [results, Tryz.results19, go_sem, c0, c1, c2, c3, c4, c5], ⟨.slice none 0 0, ?_, ?_⟩, by go_grown⟩
        · rw [HF.out]; exact World.ownsRow_nil _ _ _ _
        · rw [HF.out]; rfl
      ·
        have HT3 : Hid _ := HT2.out.trans (if_neg hbig)
        clear HT2
        have hbig2 : ¬ (16384 : Int) < s.length := by omega
        by_cases her : er = 0
        · subst her
          have HT4 : Hid _ := HT3.out.trans (if_neg (by simp))
          clear HT3
          by_cases hmany : 100 < r.length
          ·
            have HF : Hid (headS s = (Req.zero, 0, 382)) := by show headS s = _; rw [HT4.out, if_pos hmany]
            have c0 := RG5.out.cell 0 _ rfl
            have f0 := RG5.out.free 0
            have c1 := RG5.out.cell 1 _ rfl
            have f1 := RG5.out.free 1
            have c2 := RG5.out.cell 2 _ rfl
            have f2 := RG5.out.free 2
            have c3 := RG5.out.cell 3 _ rfl
            have f3 := RG5.out.free 3
            have c4 := RG5.out.cell 4 _ rfl
            have f4 := RG5.out.free 4
            have c5 := RG5.out.cell 5 _ rfl
            have f5 := RG5.out.free 5
            clear RG5 RC5 RL5 RQ5 He5
            go_wp2_with fail
            go_step3
            refine Hgo.out _ _ ?_
            go_wp2_with fail
            refine Hret0.out _ _ ?_
            refine leaves_none ⟨.tuple #[.agg #[.string ⟨#[]⟩, .string ⟨#[]⟩, .string ⟨#[]⟩, .slice none 0 0, .slice none 0 0, .bool false], .int .i64 0, .int .i64 382], by simp [results, Tryz.results19, go_sem, c0, c1, c2, c3, c4, c5], ⟨.slice none 0 0, ?_, ?_⟩, by go_grown⟩
            · rw [HF.out]; exact World.ownsRow_nil _ _ _ _
            · rw [HF.out]; rfl
          ·
            have HT5 : Hid _ := HT4.out.trans (if_neg hmany)
            clear HT4
            by_cases hrn : r = []
            ·
              subst hrn
              have HF : Hid (headS s = (Req.zero, 0, 380)) := by show headS s = _; rw [HT5.out]; rfl
              clear HT5
              have c0 := RG5.out.cell 0 _ rfl
              have f0 := RG5.out.free 0
              have c1 := RG5.out.cell 1 _ rfl
              have f1 := RG5.out.free 1
              have c2 := RG5.out.cell 2 _ rfl
              have f2 := RG5.out.free 2
              have c3 := RG5.out.cell 3 _ rfl
              have f3 := RG5.out.free 3
              have c4 := RG5.out.cell 4 _ rfl
              have f4 := RG5.out.free 4
              have c5 := RG5.out.cell 5 _ rfl
              have f5 := RG5.out.free 5
              have cc0 := RC5.out.cell 0 _ rfl
              have cc1 := RC5.out.cell 1 _ rfl
              have cc2 := RC5.out.cell 2 _ rfl
              have cc3 := RC5.out.cell 3 _ rfl
              clear RG5 RC5 RL5 RQ5 He5
              go_wp2_with fail
              generalize (w4.alloc (Obj.cells #[Value.string { data := m.toArray }, Value.string { data := u.toArray }, Value.string { data := q.toArray }, Value.slice none 0 0, Value.slice none 0 0, Value.bool false] 40)) = w5 at *
              go_step3
              go_wp2_with fail
              go_loopg [55] 0 (fun k i wr => i = .int .i64 0 ∧ w5 = wr)
              case atStart => exact ⟨rfl, rfl⟩
              case round =>
                obtain ⟨rfl, rfl⟩ := hrel
                go_wp2_with fail
                go_step3
                refine Hgo.out _ _ ?_
                go_wp2_with fail
                refine Hret0.out _ _ ?_
                refine leaves_none ⟨.tuple #[.agg #[.string ⟨#[]⟩, .string ⟨#[]⟩, .string ⟨#[]⟩, .slice none 0 0, .slice none 0 0, .bool false], .int .i64 0, .int .i64 380], by simp [results, Tryz.results19, go_sem, c0, c1, c2, c3, c4, c5], ⟨.slice none 0 0, ?_, ?_⟩, by go_grown⟩
                · rw [HF.out]; exact World.ownsRow_nil _ _ _ _
                · rw [HF.out]; rfl
            ·
              have hrp : 0 < r.length := List.length_pos_iff.2 hrn
              have hr0 : ¬ r.length = 0 := by omega
              have hr1 : ¬ r.length + 1 = 1 := by omega
              have hr2 : ¬ 1 = r.length + 1 := by omega
              go_wp2_with fail
              generalize (w4.alloc (Obj.cells #[Value.string { data := m.toArray }, Value.string { data := u.toArray }, Value.string { data := q.toArray }, Value.slice none 0 0, Value.slice none 0 0, Value.bool false] 40)) = w5 at *
              go_step3
              go_wp2_with fail
              have hg5 : w.heap.size < w5.heap.size := RG5.out.lt
              have hc5 : w1.heap.size < w5.heap.size := RC5.out.lt
              have hq5 : w4.heap.size < w5.heap.size := RQ5.out.lt
              have hL5 : w2.heap.size < w5.heap.size := RL5.out.lt
              have Hd : Hid (Dis w w5 w.heap.size w1.heap.size w4.heap.size w2.heap.size) := by
                have hc2 := Hc2.out
                have hc4 := Hc4.out
                have hL4 := HL4.out
                have hg4 := Hg4.out
                exact ⟨by omega, by omega, by omega, by omega, by omega, by omega, hbel5.size, by omega, by omega, by omega, by omega, by omega⟩
              clear Hc2 Hc4 HL4 Hg4
              have hInv0 : HInv w w5 w5 w.heap.size w1.heap.size w4.heap.size w2.heap.size m u q l0 r [] 0 [] (.slice none 0 0) := ⟨Nat.zero_le _, rfl, rfl, World.ownsRow_nil _ _ _ _, RG5.out, RC5.out, RQ5.out, RL5.out, hbel5, Nat.le_refl _, List.nodup_nil, fun x hx => by cases hx⟩
              have HI0 := Lib.hid hInv0
              clear hrn hr0 hr1 hr2 hInv0 RG5 RC5 RQ5 RL5
              refine wp_loop_ghost_k (fun k a' wr => ∃ (l : List Value) (rs : List Nat) (j : Nat) (hs : List Hdr) (hv : Value), a' = { tmps := l.toArray, defers := rs.map Mk } ∧ (l.length = 148 ∧ l.getD 2 undef = .pointer (some ⟨w.heap.size, 0, none⟩) ∧ l.getD 6 undef = .pointer (some ⟨w1.heap.size, 0, none⟩) ∧ l.getD 8 undef = .pointer (some ⟨w4.heap.size, 0, none⟩) ∧ l.getD 9 undef = .int .i64 0 ∧ l.getD 10 undef = .int .i64 0 ∧ l.getD 11 undef = .nilIface ∧ l.getD 53 undef = .slice (some ⟨w2.heap.size, 1, none⟩) r.length r.length ∧ l.getD 54 undef = .int .i64 (r.length : Int) ∧ l.getD 55 undef = .int .i64 (j : Int)) ∧ k = r.length - j ∧ HInv w w5 wr w.heap.size w1.heap.size w4.heap.size w2.heap.size m u q l0 r rs j hs hv) r.length ?start ?round
              case start => exact ⟨_, [], 0, [], _, rfl, ⟨rfl, rfl, rfl, rfl, rfl, rfl, rfl, rfl, rfl, rfl⟩, rfl, HI0.out⟩
              case round =>
                rintro k a' wr ⟨l, rs, j, hs, hv, rfl, ⟨hl, h2, h6, h8, h9, h10, h11, h53, h54, h55⟩, hk, hinv⟩ J K hJ hK
                have Hk := Lib.hid hk
                have HI := Lib.hid hinv
                have HJ := Lib.hid hJ
                have HK := Lib.hid hK
                clear hk hinv hJ hK HI0
                obtain ⟨us, hus, hu⟩ := frame148 l hl
                have e2 := (hu 2).trans h2
                have e6 := (hu 6).trans h6
                have e8 := (hu 8).trans h8
                have e9 := (hu 9).trans h9
                have e10 := (hu 10).trans h10
                have e11 := (hu 11).trans h11
                have e53 := (hu 53).trans h53
                have e54 := (hu 54).trans h54
                have e55 := (hu 55).trans h55
                clear hu hl h2 h6 h8 h9 h10 h11 h53 h54 h55
                subst hus
                simp only [e2, e6, e8, e9, e10, e11, e53, e54, e55]
                clear e2 e6 e8 e9 e10 e11 e53 e54 e55
                by_cases hlt : j < r.length
                ·
                  obtain ⟨ln, hln⟩ : ∃ ln, r.getD j [] = ln := ⟨_, rfl⟩
                  have Hln := Lib.hid hln
                  have hlt2 : (j : Int) < r.length := by omega
                  have kl := HI.out.rl.cell (1 + j) (.string ⟨(r.getD j []).toArray⟩) (by rw [Nat.add_comm]; simp [strs, hlt])
                  have hlj := Hpl.out (r.getD j []) (by simp [hlt])
                  rw [hln] at kl hlj
                  clear hln
                  go_wp2_with fail
                  refine (header_calls wr (He0.out.below HI.out.bel) ln (by omega)).mono ?_
                  rintro e wr1 ⟨rfl, hbr⟩
                  have HI1 := Lib.hid (HI.out.below hbr)
                  clear HI kl hbr
                  have hdl := header_len ln
                  generalize hgh : headerS ln = oh at hdl ⊢
                  have Hgh := Lib.hid hgh
                  clear hgh
                  rcases oh with _ | h
                  ·
                    simp only [hdrD]
                    have hb2 : Below wr1.heap.size wr1 (wr1.alloc (Obj.cells #[Value.string { data := #[] }, Value.string { data := #[] }] 61)) := (Below.refl _ _).alloc (Nat.le_refl _) _
                    have HI2 := Lib.hid (HI1.out.below hb2)
                    clear HI1 hb2
                    have HF : Hid (headS s = (Req.zero, 0, 380)) := by
                      show headS s = _
                      rw [HT5.out, show headersS r = none from by
                        have h1 := headersS_bad (r.take j) ln (r.drop (j + 1)) Hgh.out
                        rw [show r.take j ++ ln :: r.drop (j + 1) = r from by rw [← Hln.out, show r.getD j [] = r[j] from by simp [hlt], List.getElem_cons_drop, List.take_append_drop]] at h1
                        exact h1]
                    go_wp2_with fail
                    go_step3
                    refine Hgo.out _ _ ?_
                    have c0 := HI2.out.rg.cell 0 _ rfl
                    have f0 := HI2.out.rg.free 0
                    have c1 := HI2.out.rg.cell 1 _ rfl
                    have f1 := HI2.out.rg.free 1
                    have c2 := HI2.out.rg.cell 2 _ rfl
                    have f2 := HI2.out.rg.free 2
                    have c3 := HI2.out.rg.cell 3 _ rfl
                    have f3 := HI2.out.rg.free 3
                    have c4 := HI2.out.rg.cell 4 _ rfl
                    have f4 := HI2.out.rg.free 4
                    have c5 := HI2.out.rg.cell 5 _ rfl
                    have f5 := HI2.out.rg.free 5
                    go_wp2_with fail
                    refine Hret0.out _ _ ?_
                    refine (MK.leaves (l := [.string ⟨#[]⟩, .string ⟨#[]⟩, .string ⟨#[]⟩, .slice none 0 0, .slice none 0 0, .bool false]) (MK.set (MK.set (MK.set (MK.set (MK.set (MK.set (HI2.out.toMK hg5) 0 _ (by simp)) 1 _ (by simp)) 2 _ (by simp)) 3 _ (by simp)) 4 _ (by simp)) 5 _ (by simp)) (fun W9 hW1 hW2 hW3 => ?_))
                    replace c0 := hW2 0 _ rfl
                    replace c1 := hW2 1 _ rfl
                    replace c2 := hW2 2 _ rfl
                    replace c3 := hW2 3 _ rfl
                    replace c4 := hW2 4 _ rfl
                    replace c5 := hW2 5 _ rfl
                    refine leaves_none2 ⟨.tuple #[.agg #[.string ⟨#[]⟩, .string ⟨#[]⟩, .string ⟨#[]⟩, .slice none 0 0, .slice none 0 0, .bool false], .int .i64 0, .int .i64 380], by simp [results, Tryz.results19, go_sem, c0, c1, c2, c3, c4, c5], ⟨.slice none 0 0, ?_, ?_⟩, hW3⟩
                    · rw [HF.out]; exact World.ownsRow_nil _ _ _ _
                    · rw [HF.out]; rfl
                  ·
                    obtain ⟨nm, vl⟩ := h
                    simp only [hdrD] at hdl ⊢
                    have hb2 : Below wr1.heap.size wr1 (wr1.alloc (Obj.cells #[Value.string { data := nm.toArray }, Value.string { data := vl.toArray }] 61)) := (Below.refl _ _).alloc (Nat.le_refl _) _
                    have HI2 := Lib.hid (HI1.out.below hb2)
                    have RH2 := Lib.hid (RowAt.new wr1 #[Value.string { data := nm.toArray }, Value.string { data := vl.toArray }] 61)
                    have hne1 : some wr1.heap.size ≠ hv.ownBlock := fun e => by
                      have := (HI1.out.row.lt _ e.symm).2
                      omega
                    have hsz1 := HI1.out.size
                    clear HI1 hb2
                    have kq := HI2.out.rq.cell 3 _ rfl
                    have fq := HI2.out.rq.free 3
                    have kh0 := RH2.out.cell 0 _ rfl
                    have kh1 := RH2.out.cell 1 _ rfl
                    go_wp2_with (at_builtin; go_must (refine wpList_append_hdr rfl _ _ rfl w5.heap.size hv hs rfl HI2.out.row ⟨nm, vl⟩ ?hx ?hlen ?hbase ?_))
                    case hlen => have := HI2.out.many; omega
                    case hbase =>
                      have h9 := HI2.out.size
                      rw [World.size_alloc] at h9
                      exact h9
                    intro v' wr3 hv' hg
                    obtain ⟨hb, hcap, hvq⟩ := hv'.slice
                    rw [HI2.out.many] at hvq
                    subst hvq
                    have HM := Lib.hid (HInv.append (hv2 := .slice (some ⟨hb, 0, none⟩) (j + 1) hcap) HI2.out hlt (by rw [Hln.out]; exact Hgh.out) hv' hg hbel5.size hg5 hc5 hq5 hL5 Hd.out.qg Hd.out.cq.symm Hd.out.qL Hd.out.wq)
                    have RQ3 := Lib.hid ((HI2.out.rq.alloc _).grown hg (HI2.out.row.ne hq5))
                    have RH3 := Lib.hid (((RH2.out.alloc _).grown hg hne1).far (p := ⟨w4.heap.size, 3, none⟩) (by show w4.heap.size ≠ wr1.heap.size; omega) (.slice (some ⟨hb, 0, none⟩) (j + 1) hcap))
                    have Hcnt := Lib.hid HI2.out.many
                    have HI3 := Lib.hid HI2.out.marks
                    clear HI2 RH2 hv' hg kq fq kh0 kh1 hne1
                    replace kq := RQ3.out.cell 3 _ rfl
                    replace fq := RQ3.out.free 3
                    replace kh0 := RH3.out.cell 0 _ rfl
                    replace kh1 := RH3.out.cell 1 _ rfl
                    have hn0 : (valuesS hs nHost).length ≤ 100 := by
                      have h8 := valuesS_le hs nHost
                      have h9 := Hcnt.out
                      omega
                    have kc0 := HM.out.rc.cell 0 _ rfl
                    have fc0 := HM.out.rc.free 0
                    have hn1 : (valuesS hs nLength).length ≤ 100 := by
                      have h8 := valuesS_le hs nLength
                      have h9 := Hcnt.out
                      omega
                    have kc1 := HM.out.rc.cell 1 _ rfl
                    have fc1 := HM.out.rc.free 1
                    have hn2 : (valuesS hs nCoding).length ≤ 100 := by
                      have h8 := valuesS_le hs nCoding
                      have h9 := Hcnt.out
                      omega
                    have kc2 := HM.out.rc.cell 2 _ rfl
                    have fc2 := HM.out.rc.free 2
                    have kc3 := HM.out.rc.cell 3 _ rfl
                    have fc3 := HM.out.rc.free 3
                    have HmH : Hid (HMid _ _ _ _ _ _ _ _ _ _ _ _ _ _ _ _ _) := HM
                    clear HM RQ3 RH3
                    by_cases hh : nm = [104, 111, 115, 116]
                    ·
                      have HmL := HmH
                      subst hh
                      go_wp2_with fail
                      refine HK.out _ _ (Handed.intro (r.length - (j + 1)) (by rw [Hk.out]; omega) (HJ.out _ _ _ ⟨_, rs, j + 1, _, _, rfl, ⟨rfl, rfl, rfl, rfl, rfl, rfl, rfl, rfl, rfl, rfl⟩, rfl, HmL.out.host Hd.out rfl⟩))
                    ·
                      have hnHost : (nm == [104, 111, 115, 116]) = false := by rw [beq_eq_false_iff_ne]; exact hh
                      have HnHost : Hid (nm ≠ nHost) := hh
                      clear hh
                      by_cases hh : nm = [116, 114, 97, 110, 115, 102, 101, 114, 45, 101, 110, 99, 111, 100, 105, 110, 103]
                      ·
                        have HmL := HmH
                        subst hh
                        go_wp2_with fail
                        refine HK.out _ _ (Handed.intro (r.length - (j + 1)) (by rw [Hk.out]; omega) (HJ.out _ _ _ ⟨_, rs, j + 1, _, _, rfl, ⟨rfl, rfl, rfl, rfl, rfl, rfl, rfl, rfl, rfl, rfl⟩, rfl, HmL.out.coding Hd.out rfl⟩))
                      ·
                        have hnCoding : (nm == [116, 114, 97, 110, 115, 102, 101, 114, 45, 101, 110, 99, 111, 100, 105, 110, 103]) = false := by rw [beq_eq_false_iff_ne]; exact hh
                        have HnCoding : Hid (nm ≠ nCoding) := hh
                        clear hh
                        by_cases hh : nm = [99, 111, 110, 116, 101, 110, 116, 45, 108, 101, 110, 103, 116, 104]
                        ·
                          have HmL := HmH
                          subst hh
                          go_wp2_with fail
                          refine HK.out _ _ (Handed.intro (r.length - (j + 1)) (by rw [Hk.out]; omega) (HJ.out _ _ _ ⟨_, rs, j + 1, _, _, rfl, ⟨rfl, rfl, rfl, rfl, rfl, rfl, rfl, rfl, rfl, rfl⟩, rfl, HmL.out.length Hd.out rfl⟩))
                        ·
                          have hnLength : (nm == [99, 111, 110, 116, 101, 110, 116, 45, 108, 101, 110, 103, 116, 104]) = false := by rw [beq_eq_false_iff_ne]; exact hh
                          have HnLength : Hid (nm ≠ nLength) := hh
                          clear hh
                          by_cases hh : nm = [99, 111, 110, 110, 101, 99, 116, 105, 111, 110]
                          ·
                            have HmL := HmH
                            subst hh
                            clear hnHost hnCoding hnLength
                            go_wp2_with fail
                            generalize (wr3.setCell { block := w4.heap.size, off := 3 } (Value.slice (some { block := hb, off := 0 }) (j + 1) hcap)) = wr4 at *
                            clear kc0 kc1 kc2 kc3 fc0 fc1 fc2 fc3 kh0 kh1 kq fq HmH
                            refine (pieces_calls wr4 vl).mono ?_
                            rintro e w6 ⟨rfl, hw6⟩
                            have hb6 : Below wr4.heap.size wr4 w6 := by rw [hw6]; exact (Below.refl _ _).alloc (Nat.le_refl _) _
                            have hBs : w6.cell? ⟨wr4.heap.size, 0, none⟩ = some (.string ⟨vl.toArray⟩) := by rw [hw6, World.cell?_alloc_at _ _ _ _ rfl]; rfl
                            have hs6 : wr4.heap.size < w6.heap.size := by rw [hw6]; simp
                            have Hm6 := Lib.hid (HmL.out.below hb6)
                            have He6 := Lib.hid (He0.out.below Hm6.out.bel)
                            have hvl : vl.length ≤ 1000000000 := by omega
                            have hq6 : w4.heap.size < w6.heap.size := Hm6.out.rq.lt
                            clear HmL hw6 hb6
                            have Hm7 := Lib.hid Hm6.out.marks
                            have Hms : Hid (∀ x ∈ rs, x < w6.heap.size) := fun x hx => (Array.getElem?_eq_some_iff.1 (Hm6.out.marks x hx).2).1
                            have kq5 := Hm6.out.rq.cell 5 _ rfl
                            have fq5 := Hm6.out.rq.free 5
                            go_wp2_with fail
                            refine' wpIn_wide.1 (wpIn_rangeFunc_ownF (F := Fence.wide) (n := 5) (α := PieceT) rfl (by decide) (gf := 72) rfl trivial (fun _ _ => by kernel_rfl) (pieces_seq 4 (by decide) wr4.heap.size vl hvl w6 He6.out hBs hs6) (fun h k => h.trans k) (fun W l o o' hl h1 h2 h3 => CK.put W l o o' hl h1 h2 h3) (Below.refl _ _) (fun _ => rfl) (fun pre W => Below w6.heap.size w6 W ∧ ∀ x ∈ pre, closeT x = false) (fun c pre W => c = Code.exit 1 ∧ Below w6.heap.size (w6.setCell ⟨w4.heap.size, 5, none⟩ (.bool true)) W ∧ ∃ x ∈ pre, closeT x = true) ?hI ?hIx ⟨Below.refl _ _, by simp⟩ _ ?hassign ?hbody ?hdone ?hstop)
                            case hI => exact fun pre W W9 row hs hg hr => ⟨ownFrom_below (β := Unit) (Nat.le_refl _) (Nat.le_refl _) () W W9 row hs.1 hg hr, hs.2⟩
                            case hIx => exact fun c pre W W9 row hs hg hr => ⟨hs.1, ownFrom_below (β := Unit) (by simp) (Nat.le_refl _) () W W9 row hs.2.1 hg hr, hs.2.2⟩
                            case hassign =>
                              intro l x W K hK
                              gi_wp2_with fail
                              exact hK
                            case hbody =>
                              rintro l pre x W ⟨hbW, hpre⟩ hlen
                              gi_wp2_with fail
                              refine ⟨trivial, ?_⟩
                              refine (CallsIn.inRound l (callsIn_wide.2 (toLower_calls W (He6.out.below hbW) x.1 x.2))).mono ?_
                              rintro e W2 ⟨rfl, hb2⟩
                              have hlc : (Lib.toLowerD x.1 == nClose) = closeT x := lower_close x.1
                              generalize Lib.toLowerD x.1 = lw at *
                              have hbW2 := hbW.trans (hb2.mono hbW.size)
                              have k5 := (hbW2.cell (p := ⟨w4.heap.size, 5, none⟩) hq6).trans kq5
                              have f5 := (hbW2.frozen (p := ⟨w4.heap.size, 5, none⟩) hq6).trans fq5
                              have Hpre := Lib.hid hpre
                              have HbW := Lib.hid hbW2
                              have Hb2 := Lib.hid hb2
                              clear hpre hbW hb2 hbW2 kq5 fq5
                              by_cases hc : closeT x = true
                              ·
                                rw [hc] at hlc
                                obtain rfl : lw = [99, 108, 111, 115, 101] := by simpa [nClose] using hlc
                                clear hlc
                                gi_wp2_with fail
                                exact ⟨(keepsOthers_of_below Hb2.out).trans (KeepsOthers.setCell _ _ _), rfl, below_both HbW.out _ _, x, by simp, hc⟩
                              ·
                                rw [Bool.not_eq_true] at hc
                                have hl2 : (lw == [99, 108, 111, 115, 101]) = false := by rw [hc] at hlc; exact hlc
                                clear hlc
                                gi_wp2_with fail
                                exact ⟨keepsOthers_of_below Hb2.out, CK.of_below Hb2.out, HbW.out, fun y hy => by
                                  rcases List.mem_append.1 hy with h | h
                                  · exact Hpre.out y h
                                  · rw [List.mem_singleton.1 h]; exact hc⟩
                            case hdone =>
                              rintro D xs W hD hS ⟨hbW, hall⟩ hDm
                              have Hall := Lib.hid hall
                              have HDm := Lib.hid hDm
                              have HbW := Lib.hid hbW
                              have HS := Lib.hid hS
                              clear hall hDm hbW hS kq5 fq5
                              go_wp2_with fail
                              refine HK.out _ _ (Handed.intro (r.length - (j + 1)) (by rw [Hk.out]; omega) (HJ.out _ _ _ ⟨_, D :: rs, j + 1, _, _, rfl, ⟨rfl, rfl, rfl, rfl, rfl, rfl, rfl, rfl, rfl, rfl⟩, rfl, ((HMid.below Hm6.out HbW.out).other Hd.out HnHost.out HnCoding.out HnLength.out (fun _ => by rw [closes_any vl hvl, ← HS.out, List.any_eq_false]; exact fun y hy e => by rw [Hall.out y hy] at e; cases e)).mark (B := w6.heap.size) Hms.out hD Hm6.out.size HDm.out⟩))
                            case hstop =>
                              rintro D c pre W hD ⟨k9, hk9, rfl⟩ ⟨rfl, hbW, x, hx, hcx⟩ hDm
                              have HDm := Lib.hid hDm
                              have HbW := Lib.hid hbW
                              have Hx := Lib.hid hx
                              clear hDm hbW hx hk9 kq5 fq5
                              refine wpIn_wide.2 ?_
                              go_wp2_with fail
                              refine HK.out _ _ (Handed.intro (r.length - (j + 1)) (by rw [Hk.out]; omega) (HJ.out _ _ _ ⟨_, D :: rs, j + 1, _, _, rfl, ⟨rfl, rfl, rfl, rfl, rfl, rfl, rfl, rfl, rfl, rfl⟩, rfl, ((Hm6.out.close Hd.out rfl (by rw [closes_any vl hvl, List.any_eq_true]; exact ⟨x, List.mem_of_mem_take Hx.out, hcx⟩)).below (by simpa using HbW.out)).mark (B := w6.heap.size) Hms.out hD Hm6.out.size HDm.out⟩))
                          ·
                            have hnConn : (nm == [99, 111, 110, 110, 101, 99, 116, 105, 111, 110]) = false := by rw [beq_eq_false_iff_ne]; exact hh
                            have HnConn : Hid (nm ≠ nConn) := hh
                            clear hh
                            go_wp2_with fail
                            refine HK.out _ _ (Handed.intro (r.length - (j + 1)) (by rw [Hk.out]; omega) (HJ.out _ _ _ ⟨_, rs, j + 1, _, _, rfl, ⟨rfl, rfl, rfl, rfl, rfl, rfl, rfl, rfl, rfl, rfl⟩, rfl, HmH.out.other Hd.out HnHost.out HnCoding.out HnLength.out (fun e => absurd e HnConn.out)⟩))
                ·
                  obtain rfl : j = r.length := by
                    have h9 := HI.out.hj
                    omega
                  have hhs : headersS r = some hs := by
                    have h9 := HI.out.head
                    rwa [List.take_length] at h9
                  have hcnt := HI.out.many
                  have HT6 : Hid (headS s = if (countS hs).2 ≠ 0 then (Req.zero, 0, (countS hs).2) else (⟨m, u, q, hs, [], (valuesS hs nConn).any closesS⟩, (countS hs).1, 0)) := Lib.hid (HT5.out.trans (by rw [hhs]))
                  have hlast : ((valuesS hs nLength).getLastD []).length ≤ s.length := last_len r hs hhs s.length (fun p hp => Hpl.out p (List.mem_cons_of_mem _ hp))
                  have hn0 : (valuesS hs nHost).length ≤ 100 := by
                    have h8 := valuesS_le hs nHost
                    omega
                  have kc0 := HI.out.rc.cell 0 _ rfl
                  have fc0 := HI.out.rc.free 0
                  have hn1 : (valuesS hs nLength).length ≤ 100 := by
                    have h8 := valuesS_le hs nLength
                    omega
                  have kc1 := HI.out.rc.cell 1 _ rfl
                  have fc1 := HI.out.rc.free 1
                  have hn2 : (valuesS hs nCoding).length ≤ 100 := by
                    have h8 := valuesS_le hs nCoding
                    omega
                  have kc2 := HI.out.rc.cell 2 _ rfl
                  have fc2 := HI.out.rc.free 2
                  have kc3 := HI.out.rc.cell 3 _ rfl
                  have fc3 := HI.out.rc.free 3
                  obtain ⟨la, hla⟩ : ∃ la, (valuesS hs nLength).getLastD [] = la := ⟨_, rfl⟩
                  rw [hla] at hlast kc3
                  have Hla := Lib.hid hla
                  clear hla
                  have Hhs := Lib.hid hhs
                  have Hcnt := Lib.hid hcnt
                  clear hhs hcnt HT5
                  have hlt2 : ¬ (r.length : Int) < r.length := by omega
                  by_cases hC : 0 < (valuesS hs nCoding).length
                  ·
                    have HF : Hid (headS s = (Req.zero, 0, 384)) := Lib.hid (HT6.out.trans (by rw [count_coding hC]; rfl))
                    have hC2 : (0 : Int) < (valuesS hs nCoding).length := by omega
                    go_wp2_with fail
                    go_step3
                    refine Hgo.out _ _ ?_
                    have c0 := HI.out.rg.cell 0 _ rfl
                    have f0 := HI.out.rg.free 0
                    have c1 := HI.out.rg.cell 1 _ rfl
                    have f1 := HI.out.rg.free 1
                    have c2 := HI.out.rg.cell 2 _ rfl
                    have f2 := HI.out.rg.free 2
                    have c3 := HI.out.rg.cell 3 _ rfl
                    have f3 := HI.out.rg.free 3
                    have c4 := HI.out.rg.cell 4 _ rfl
                    have f4 := HI.out.rg.free 4
                    have c5 := HI.out.rg.cell 5 _ rfl
                    have f5 := HI.out.rg.free 5
                    go_wp2_with fail
                    refine Hret0.out _ _ ?_
                    refine (MK.leaves (l := [.string ⟨#[]⟩, .string ⟨#[]⟩, .string ⟨#[]⟩, .slice none 0 0, .slice none 0 0, .bool false]) (MK.set (MK.set (MK.set (MK.set (MK.set (MK.set (HI.out.toMK hg5) 0 _ (by simp)) 1 _ (by simp)) 2 _ (by simp)) 3 _ (by simp)) 4 _ (by simp)) 5 _ (by simp)) (fun W9 hW1 hW2 hW3 => ?_))
                    replace c0 := hW2 0 _ rfl
                    replace c1 := hW2 1 _ rfl
                    replace c2 := hW2 2 _ rfl
                    replace c3 := hW2 3 _ rfl
                    replace c4 := hW2 4 _ rfl
                    replace c5 := hW2 5 _ rfl
                    refine leaves_none2 ⟨.tuple #[.agg #[.string ⟨#[]⟩, .string ⟨#[]⟩, .string ⟨#[]⟩, .slice none 0 0, .slice none 0 0, .bool false], .int .i64 0, .int .i64 384], by simp [results, Tryz.results19, go_sem, c0, c1, c2, c3, c4, c5], ⟨.slice none 0 0, ?_, ?_⟩, hW3⟩
                    · rw [HF.out]; exact World.ownsRow_nil _ _ _ _
                    · rw [HF.out]; rfl
                  ·
                    have hC0 : (valuesS hs nCoding).length = 0 := by omega
                    have HC0 := Lib.hid hC0
                    rw [hC0] at kc2
                    clear hC hC0
                    obtain ⟨nh, hnh⟩ : ∃ n, (valuesS hs nHost).length = n := ⟨_, rfl⟩
                    obtain ⟨nl, hnl⟩ : ∃ n, (valuesS hs nLength).length = n := ⟨_, rfl⟩
                    rw [hnh] at kc0 hn0
                    rw [hnl] at kc1 hn1
                    have Hnh := Lib.hid hnh
                    have Hnl := Lib.hid hnl
                    clear hnh hnl hn2
                    obtain ⟨cb, ccap, rfl⟩ := HI.out.row.form (by rw [Hcnt.out]; exact hrp)
                    by_cases hL : 0 < nl
                    ·
                      have hL2 : (0 : Int) < nl := by omega
                      go_wp2_with fail
                      refine (atoi_calls wr (He0.out.below HI.out.bel) la (by omega)).mono ?_
                      rintro e wr1 ⟨⟨v, er, hA, rfl⟩, hbr⟩
                      have HI1 := Lib.hid (HI.out.below hbr)
                      clear HI hbr
                      replace kc0 := HI1.out.rc.cell 0 _ rfl
                      replace fc0 := HI1.out.rc.free 0
                      replace kc1 := HI1.out.rc.cell 1 _ rfl
                      replace fc1 := HI1.out.rc.free 1
                      replace kc3 := HI1.out.rc.cell 3 _ rfl
                      replace fc3 := HI1.out.rc.free 3
                      rw [Hnh.out] at kc0
                      rw [Hnl.out] at kc1
                      rw [Hla.out] at kc3
                      have HE := Lib.hid (count_end HC0.out (v := v) (er := er) (.inr ⟨by rw [Hnl.out]; exact hL, by rw [Hla.out]; exact hA⟩))
                      rw [Hla.out, Hnh.out, Hnl.out] at HE
                      clear hL
                      by_cases hn : nh = 1
                      ·
                        have hnb : ((nh : Int) != 1) = false := by rw [bne_eq_false_iff_eq, hn]; rfl
                        have Hn := Lib.hid hn
                        clear hn
                        by_cases hm : 1 < nl
                        ·
                          have HF : Hid (headS s = (Req.zero, 0, 380)) := Lib.hid (HT6.out.trans (by rw [HE.out.1 (.inr (.inl hm))]; rfl))
                          have hm2 : (1 : Int) < nl := by omega
                          go_wp2_with fail
                          go_step3
                          refine Hgo.out _ _ ?_
                          have c0 := HI1.out.rg.cell 0 _ rfl
                          have f0 := HI1.out.rg.free 0
                          have c1 := HI1.out.rg.cell 1 _ rfl
                          have f1 := HI1.out.rg.free 1
                          have c2 := HI1.out.rg.cell 2 _ rfl
                          have f2 := HI1.out.rg.free 2
                          have c3 := HI1.out.rg.cell 3 _ rfl
                          have f3 := HI1.out.rg.free 3
                          have c4 := HI1.out.rg.cell 4 _ rfl
                          have f4 := HI1.out.rg.free 4
                          have c5 := HI1.out.rg.cell 5 _ rfl
                          have f5 := HI1.out.rg.free 5
                          go_wp2_with fail
                          refine Hret0.out _ _ ?_
                          refine (MK.leaves (l := [.string ⟨#[]⟩, .string ⟨#[]⟩, .string ⟨#[]⟩, .slice none 0 0, .slice none 0 0, .bool false]) (MK.set (MK.set (MK.set (MK.set (MK.set (MK.set (HI1.out.toMK hg5) 0 _ (by simp)) 1 _ (by simp)) 2 _ (by simp)) 3 _ (by simp)) 4 _ (by simp)) 5 _ (by simp)) (fun W9 hW1 hW2 hW3 => ?_))
                          replace c0 := hW2 0 _ rfl
                          replace c1 := hW2 1 _ rfl
                          replace c2 := hW2 2 _ rfl
                          replace c3 := hW2 3 _ rfl
                          replace c4 := hW2 4 _ rfl
                          replace c5 := hW2 5 _ rfl
                          refine leaves_none2 ⟨.tuple #[.agg #[.string ⟨#[]⟩, .string ⟨#[]⟩, .string ⟨#[]⟩, .slice none 0 0, .slice none 0 0, .bool false], .int .i64 0, .int .i64 380], by simp [results, Tryz.results19, go_sem, c0, c1, c2, c3, c4, c5], ⟨.slice none 0 0, ?_, ?_⟩, hW3⟩
                          · rw [HF.out]; exact World.ownsRow_nil _ _ _ _
                          · rw [HF.out]; rfl
                        ·
                          have hm2 : ¬ (1 : Int) < nl := by omega
                          have Hm := Lib.hid hm
                          clear hm
                          rcases hA.1 with rfl | ⟨tp, pv, rfl⟩
                          ·
                            clear hA
                            go_wp2_with fail
                            refine (only_calls 46 dgB tells_digit _ la (by unfold maxLen; omega)).mono ?_
                            rintro e w7 ⟨rfl, hb7⟩
                            have HI7 := Lib.hid (HI1.out.below hb7)
                            clear HI1 hb7
                            replace kc3 := HI7.out.rc.cell 3 _ rfl
                            replace fc3 := HI7.out.rc.free 3
                            rw [Hla.out] at kc3
                            obtain ⟨ad, had⟩ : ∃ b, la.all dgB = b := ⟨_, rfl⟩
                            rw [had]
                            cases ad
                            ·
                              have HF : Hid (headS s = (Req.zero, 0, 380)) := Lib.hid (HT6.out.trans (by rw [HE.out.1 (.inr (.inr (.inr (.inl had))))]; rfl))
                              clear had
                              go_wp2_with fail
                              go_step3
                              refine Hgo.out _ _ ?_
                              have c0 := HI7.out.rg.cell 0 _ rfl
                              have f0 := HI7.out.rg.free 0
                              have c1 := HI7.out.rg.cell 1 _ rfl
                              have f1 := HI7.out.rg.free 1
                              have c2 := HI7.out.rg.cell 2 _ rfl
                              have f2 := HI7.out.rg.free 2
                              have c3 := HI7.out.rg.cell 3 _ rfl
                              have f3 := HI7.out.rg.free 3
                              have c4 := HI7.out.rg.cell 4 _ rfl
                              have f4 := HI7.out.rg.free 4
                              have c5 := HI7.out.rg.cell 5 _ rfl
                              have f5 := HI7.out.rg.free 5
                              go_wp2_with fail
                              refine Hret0.out _ _ ?_
                              refine (MK.leaves (l := [.string ⟨#[]⟩, .string ⟨#[]⟩, .string ⟨#[]⟩, .slice none 0 0, .slice none 0 0, .bool false]) (MK.set (MK.set (MK.set (MK.set (MK.set (MK.set (HI7.out.toMK hg5) 0 _ (by simp)) 1 _ (by simp)) 2 _ (by simp)) 3 _ (by simp)) 4 _ (by simp)) 5 _ (by simp)) (fun W9 hW1 hW2 hW3 => ?_))
                              replace c0 := hW2 0 _ rfl
                              replace c1 := hW2 1 _ rfl
                              replace c2 := hW2 2 _ rfl
                              replace c3 := hW2 3 _ rfl
                              replace c4 := hW2 4 _ rfl
                              replace c5 := hW2 5 _ rfl
                              refine leaves_none2 ⟨.tuple #[.agg #[.string ⟨#[]⟩, .string ⟨#[]⟩, .string ⟨#[]⟩, .slice none 0 0, .slice none 0 0, .bool false], .int .i64 0, .int .i64 380], by simp [results, Tryz.results19, go_sem, c0, c1, c2, c3, c4, c5], ⟨.slice none 0 0, ?_, ?_⟩, hW3⟩
                              · rw [HF.out]; exact World.ownsRow_nil _ _ _ _
                              · rw [HF.out]; rfl
                            ·
                              have Had := Lib.hid had
                              clear had
                              by_cases h18 : 18 < la.length
                              ·
                                have HF : Hid (headS s = (Req.zero, 0, 380)) := Lib.hid (HT6.out.trans (by rw [HE.out.1 (.inr (.inr (.inr (.inr h18))))]; rfl))
                                have h182 : (18 : Int) < la.length := by omega
                                go_wp2_with fail
                                go_step3
                                refine Hgo.out _ _ ?_
                                have c0 := HI7.out.rg.cell 0 _ rfl
                                have f0 := HI7.out.rg.free 0
                                have c1 := HI7.out.rg.cell 1 _ rfl
                                have f1 := HI7.out.rg.free 1
                                have c2 := HI7.out.rg.cell 2 _ rfl
                                have f2 := HI7.out.rg.free 2
                                have c3 := HI7.out.rg.cell 3 _ rfl
                                have f3 := HI7.out.rg.free 3
                                have c4 := HI7.out.rg.cell 4 _ rfl
                                have f4 := HI7.out.rg.free 4
                                have c5 := HI7.out.rg.cell 5 _ rfl
                                have f5 := HI7.out.rg.free 5
                                go_wp2_with fail
                                refine Hret0.out _ _ ?_
                                refine (MK.leaves (l := [.string ⟨#[]⟩, .string ⟨#[]⟩, .string ⟨#[]⟩, .slice none 0 0, .slice none 0 0, .bool false]) (MK.set (MK.set (MK.set (MK.set (MK.set (MK.set (HI7.out.toMK hg5) 0 _ (by simp)) 1 _ (by simp)) 2 _ (by simp)) 3 _ (by simp)) 4 _ (by simp)) 5 _ (by simp)) (fun W9 hW1 hW2 hW3 => ?_))
                                replace c0 := hW2 0 _ rfl
                                replace c1 := hW2 1 _ rfl
                                replace c2 := hW2 2 _ rfl
                                replace c3 := hW2 3 _ rfl
                                replace c4 := hW2 4 _ rfl
                                replace c5 := hW2 5 _ rfl
                                refine leaves_none2 ⟨.tuple #[.agg #[.string ⟨#[]⟩, .string ⟨#[]⟩, .string ⟨#[]⟩, .slice none 0 0, .slice none 0 0, .bool false], .int .i64 0, .int .i64 380], by simp [results, Tryz.results19, go_sem, c0, c1, c2, c3, c4, c5], ⟨.slice none 0 0, ?_, ?_⟩, hW3⟩
                                · rw [HF.out]; exact World.ownsRow_nil _ _ _ _
                                · rw [HF.out]; rfl
                              ·
                                obtain ⟨n, hv, hnb9, hcnt9⟩ := HE.out.2 Hn.out (by have := Hm.out; omega) (by simp) Had.out (by omega)
                                have Hc9 := Lib.hid hcnt9
                                have h182 : ¬ (18 : Int) < la.length := by omega
                                subst hv
                                clear hcnt9
                                by_cases hbg : n ≤ 1048576
                                ·
                                  have HF : Hid (headS s = (⟨m, u, q, hs, [], (valuesS hs nConn).any closesS⟩, n, 0)) := Lib.hid (HT6.out.trans (by rw [Hc9.out, if_pos hbg]; rfl))
                                  have hbg2 : ¬ (1048576 : Int) < n := by omega
                                  have Hnb := Lib.hid hnb9
                                  clear hnb9 hbg
                                  have c0 := HI7.out.rg.cell 0 _ rfl
                                  have f0 := HI7.out.rg.free 0
                                  have kq0 := HI7.out.rq.cell 0 _ rfl
                                  have fq0 := HI7.out.rq.free 0
                                  have c1 := HI7.out.rg.cell 1 _ rfl
                                  have f1 := HI7.out.rg.free 1
                                  have kq1 := HI7.out.rq.cell 1 _ rfl
                                  have fq1 := HI7.out.rq.free 1
                                  have c2 := HI7.out.rg.cell 2 _ rfl
                                  have f2 := HI7.out.rg.free 2
                                  have kq2 := HI7.out.rq.cell 2 _ rfl
                                  have fq2 := HI7.out.rq.free 2
                                  have c3 := HI7.out.rg.cell 3 _ rfl
                                  have f3 := HI7.out.rg.free 3
                                  have kq3 := HI7.out.rq.cell 3 _ rfl
                                  have fq3 := HI7.out.rq.free 3
                                  have c4 := HI7.out.rg.cell 4 _ rfl
                                  have f4 := HI7.out.rg.free 4
                                  have kq4 := HI7.out.rq.cell 4 _ rfl
                                  have fq4 := HI7.out.rq.free 4
                                  have c5 := HI7.out.rg.cell 5 _ rfl
                                  have f5 := HI7.out.rg.free 5
                                  have kq5 := HI7.out.rq.cell 5 _ rfl
                                  have fq5 := HI7.out.rq.free 5
                                  generalize hcl : (valuesS hs nConn).any closesS = cl at *
                                  have Hcl := Lib.hid hcl
                                  clear hcl kc0 kc1 fc0 fc1 fc2 kc2
                                  go_wp2_with fail
                                  refine Hret.out _ _ ?_
                                  refine (MK.leaves (l := [.string ⟨m.toArray⟩, .string ⟨u.toArray⟩, .string ⟨q.toArray⟩, .slice (some ⟨cb, 0, none⟩) hs.length ccap, .slice none 0 0, .bool cl]) (MK.set (MK.set (MK.set (MK.set (MK.set (MK.set (HI7.out.toMK hg5) 0 _ (by simp)) 1 _ (by simp)) 2 _ (by simp)) 3 _ (by simp)) 4 _ (by simp)) 5 _ (by simp)) (fun W9 hW1 hW2 hW3 => ?_))
                                  replace c0 := hW2 0 _ rfl
                                  replace c1 := hW2 1 _ rfl
                                  replace c2 := hW2 2 _ rfl
                                  replace c3 := hW2 3 _ rfl
                                  replace c4 := hW2 4 _ rfl
                                  replace c5 := hW2 5 _ rfl
                                  refine leaves_none2 ⟨.tuple #[.agg #[.string ⟨m.toArray⟩, .string ⟨u.toArray⟩, .string ⟨q.toArray⟩, .slice (some ⟨cb, 0, none⟩) hs.length ccap, .slice none 0 0, .bool cl], .int .i64 n, .int .i64 0], by simp [results, Tryz.results19, go_sem, c0, c1, c2, c3, c4, c5], ⟨.slice (some ⟨cb, 0, none⟩) hs.length ccap, ?_, ?_⟩, hW3⟩
                                  · rw [HF.out]; exact (HdrV.ck (ownsRow_setCell_below (ownsRow_setCell_below (ownsRow_setCell_below (ownsRow_setCell_below (ownsRow_setCell_below (ownsRow_setCell_below HI7.out.row hg5 _) hg5 _) hg5 _) hg5 _) hg5 _) hg5 _) hW1).le (Nat.le_of_lt hg5)
                                  · rw [HF.out]
                                ·
                                  have HF : Hid (headS s = (Req.zero, 0, 381)) := Lib.hid (HT6.out.trans (by rw [Hc9.out, if_neg hbg]; rfl))
                                  have hbg2 : (1048576 : Int) < n := by omega
                                  have Hnb := Lib.hid hnb9
                                  clear hnb9 hbg
                                  go_wp2_with fail
                                  go_step3
                                  refine Hgo.out _ _ ?_
                                  have c0 := HI7.out.rg.cell 0 _ rfl
                                  have f0 := HI7.out.rg.free 0
                                  have c1 := HI7.out.rg.cell 1 _ rfl
                                  have f1 := HI7.out.rg.free 1
                                  have c2 := HI7.out.rg.cell 2 _ rfl
                                  have f2 := HI7.out.rg.free 2
                                  have c3 := HI7.out.rg.cell 3 _ rfl
                                  have f3 := HI7.out.rg.free 3
                                  have c4 := HI7.out.rg.cell 4 _ rfl
                                  have f4 := HI7.out.rg.free 4
                                  have c5 := HI7.out.rg.cell 5 _ rfl
                                  have f5 := HI7.out.rg.free 5
                                  go_wp2_with fail
                                  refine Hret0.out _ _ ?_
                                  refine (MK.leaves (l := [.string ⟨#[]⟩, .string ⟨#[]⟩, .string ⟨#[]⟩, .slice none 0 0, .slice none 0 0, .bool false]) (MK.set (MK.set (MK.set (MK.set (MK.set (MK.set (HI7.out.toMK hg5) 0 _ (by simp)) 1 _ (by simp)) 2 _ (by simp)) 3 _ (by simp)) 4 _ (by simp)) 5 _ (by simp)) (fun W9 hW1 hW2 hW3 => ?_))
                                  replace c0 := hW2 0 _ rfl
                                  replace c1 := hW2 1 _ rfl
                                  replace c2 := hW2 2 _ rfl
                                  replace c3 := hW2 3 _ rfl
                                  replace c4 := hW2 4 _ rfl
                                  replace c5 := hW2 5 _ rfl
                                  refine leaves_none2 ⟨.tuple #[.agg #[.string ⟨#[]⟩, .string ⟨#[]⟩, .string ⟨#[]⟩, .slice none 0 0, .slice none 0 0, .bool false], .int .i64 0, .int .i64 381], by simp [results, Tryz.results19, go_sem, c0, c1, c2, c3, c4, c5], ⟨.slice none 0 0, ?_, ?_⟩, hW3⟩
                                  · rw [HF.out]; exact World.ownsRow_nil _ _ _ _
                                  · rw [HF.out]; rfl
                          ·
                            clear hA
                            have HF : Hid (headS s = (Req.zero, 0, 380)) := Lib.hid (HT6.out.trans (by rw [HE.out.1 (.inr (.inr (.inl (by simp))))]; rfl))
                            go_wp2_with fail
                            go_step3
                            refine Hgo.out _ _ ?_
                            have c0 := HI1.out.rg.cell 0 _ rfl
                            have f0 := HI1.out.rg.free 0
                            have c1 := HI1.out.rg.cell 1 _ rfl
                            have f1 := HI1.out.rg.free 1
                            have c2 := HI1.out.rg.cell 2 _ rfl
                            have f2 := HI1.out.rg.free 2
                            have c3 := HI1.out.rg.cell 3 _ rfl
                            have f3 := HI1.out.rg.free 3
                            have c4 := HI1.out.rg.cell 4 _ rfl
                            have f4 := HI1.out.rg.free 4
                            have c5 := HI1.out.rg.cell 5 _ rfl
                            have f5 := HI1.out.rg.free 5
                            go_wp2_with fail
                            refine Hret0.out _ _ ?_
                            refine (MK.leaves (l := [.string ⟨#[]⟩, .string ⟨#[]⟩, .string ⟨#[]⟩, .slice none 0 0, .slice none 0 0, .bool false]) (MK.set (MK.set (MK.set (MK.set (MK.set (MK.set (HI1.out.toMK hg5) 0 _ (by simp)) 1 _ (by simp)) 2 _ (by simp)) 3 _ (by simp)) 4 _ (by simp)) 5 _ (by simp)) (fun W9 hW1 hW2 hW3 => ?_))
                            replace c0 := hW2 0 _ rfl
                            replace c1 := hW2 1 _ rfl
                            replace c2 := hW2 2 _ rfl
                            replace c3 := hW2 3 _ rfl
                            replace c4 := hW2 4 _ rfl
                            replace c5 := hW2 5 _ rfl
                            refine leaves_none2 ⟨.tuple #[.agg #[.string ⟨#[]⟩, .string ⟨#[]⟩, .string ⟨#[]⟩, .slice none 0 0, .slice none 0 0, .bool false], .int .i64 0, .int .i64 380], by simp [results, Tryz.results19, go_sem, c0, c1, c2, c3, c4, c5], ⟨.slice none 0 0, ?_, ?_⟩, hW3⟩
                            · rw [HF.out]; exact World.ownsRow_nil _ _ _ _
                            · rw [HF.out]; rfl
                      ·
                        have HF : Hid (headS s = (Req.zero, 0, 380)) := Lib.hid (HT6.out.trans (by rw [HE.out.1 (.inl hn)]; rfl))
                        have hnb : ((nh : Int) != 1) = true := by rw [bne_iff_ne]; omega
                        clear hn
                        go_wp2_with fail
                        go_step3
                        refine Hgo.out _ _ ?_
                        have c0 := HI1.out.rg.cell 0 _ rfl
                        have f0 := HI1.out.rg.free 0
                        have c1 := HI1.out.rg.cell 1 _ rfl
                        have f1 := HI1.out.rg.free 1
                        have c2 := HI1.out.rg.cell 2 _ rfl
                        have f2 := HI1.out.rg.free 2
                        have c3 := HI1.out.rg.cell 3 _ rfl
                        have f3 := HI1.out.rg.free 3
                        have c4 := HI1.out.rg.cell 4 _ rfl
                        have f4 := HI1.out.rg.free 4
                        have c5 := HI1.out.rg.cell 5 _ rfl
                        have f5 := HI1.out.rg.free 5
                        go_wp2_with fail
                        refine Hret0.out _ _ ?_
                        refine (MK.leaves (l := [.string ⟨#[]⟩, .string ⟨#[]⟩, .string ⟨#[]⟩, .slice none 0 0, .slice none 0 0, .bool false]) (MK.set (MK.set (MK.set (MK.set (MK.set (MK.set (HI1.out.toMK hg5) 0 _ (by simp)) 1 _ (by simp)) 2 _ (by simp)) 3 _ (by simp)) 4 _ (by simp)) 5 _ (by simp)) (fun W9 hW1 hW2 hW3 => ?_))
                        replace c0 := hW2 0 _ rfl
                        replace c1 := hW2 1 _ rfl
                        replace c2 := hW2 2 _ rfl
                        replace c3 := hW2 3 _ rfl
                        replace c4 := hW2 4 _ rfl
                        replace c5 := hW2 5 _ rfl
                        refine leaves_none2 ⟨.tuple #[.agg #[.string ⟨#[]⟩, .string ⟨#[]⟩, .string ⟨#[]⟩, .slice none 0 0, .slice none 0 0, .bool false], .int .i64 0, .int .i64 380], by simp [results, Tryz.results19, go_sem, c0, c1, c2, c3, c4, c5], ⟨.slice none 0 0, ?_, ?_⟩, hW3⟩
                        · rw [HF.out]; exact World.ownsRow_nil _ _ _ _
                        · rw [HF.out]; rfl
                    ·
                      have hL2 : ¬ (0 : Int) < nl := by omega
                      have HE := Lib.hid (count_end HC0.out (v := 0) (er := .nilIface) (.inl ⟨by rw [Hnl.out]; omega, rfl, rfl⟩))
                      rw [Hla.out, Hnh.out, Hnl.out] at HE
                      clear hL
                      by_cases hn : nh = 1
                      ·
                        have hnb : ((nh : Int) != 1) = false := by rw [bne_eq_false_iff_eq, hn]; rfl
                        have Hn := Lib.hid hn
                        clear hn
                        have hm : ¬ 1 < nl := by omega
                        have hm2 : ¬ (1 : Int) < nl := by omega
                        have Hm := Lib.hid hm
                        clear hm
                        go_wp2_with fail
                        refine (only_calls 46 dgB tells_digit _ la (by unfold maxLen; omega)).mono ?_
                        rintro e w7 ⟨rfl, hb7⟩
                        have HI7 := Lib.hid (HI.out.below hb7)
                        clear HI hb7
                        replace kc3 := HI7.out.rc.cell 3 _ rfl
                        replace fc3 := HI7.out.rc.free 3
                        rw [Hla.out] at kc3
                        obtain ⟨ad, had⟩ : ∃ b, la.all dgB = b := ⟨_, rfl⟩
                        rw [had]
                        cases ad
                        ·
                          have HF : Hid (headS s = (Req.zero, 0, 380)) := Lib.hid (HT6.out.trans (by rw [HE.out.1 (.inr (.inr (.inr (.inl had))))]; rfl))
                          clear had
                          go_wp2_with fail
                          go_step3
                          refine Hgo.out _ _ ?_
                          have c0 := HI7.out.rg.cell 0 _ rfl
                          have f0 := HI7.out.rg.free 0
                          have c1 := HI7.out.rg.cell 1 _ rfl
                          have f1 := HI7.out.rg.free 1
                          have c2 := HI7.out.rg.cell 2 _ rfl
                          have f2 := HI7.out.rg.free 2
                          have c3 := HI7.out.rg.cell 3 _ rfl
                          have f3 := HI7.out.rg.free 3
                          have c4 := HI7.out.rg.cell 4 _ rfl
                          have f4 := HI7.out.rg.free 4
                          have c5 := HI7.out.rg.cell 5 _ rfl
                          have f5 := HI7.out.rg.free 5
                          go_wp2_with fail
                          refine Hret0.out _ _ ?_
                          refine (MK.leaves (l := [.string ⟨#[]⟩, .string ⟨#[]⟩, .string ⟨#[]⟩, .slice none 0 0, .slice none 0 0, .bool false]) (MK.set (MK.set (MK.set (MK.set (MK.set (MK.set (HI7.out.toMK hg5) 0 _ (by simp)) 1 _ (by simp)) 2 _ (by simp)) 3 _ (by simp)) 4 _ (by simp)) 5 _ (by simp)) (fun W9 hW1 hW2 hW3 => ?_))
                          replace c0 := hW2 0 _ rfl
                          replace c1 := hW2 1 _ rfl
                          replace c2 := hW2 2 _ rfl
                          replace c3 := hW2 3 _ rfl
                          replace c4 := hW2 4 _ rfl
                          replace c5 := hW2 5 _ rfl
                          refine leaves_none2 ⟨.tuple #[.agg #[.string ⟨#[]⟩, .string ⟨#[]⟩, .string ⟨#[]⟩, .slice none 0 0, .slice none 0 0, .bool false], .int .i64 0, .int .i64 380], by simp [results, Tryz.results19, go_sem, c0, c1, c2, c3, c4, c5], ⟨.slice none 0 0, ?_, ?_⟩, hW3⟩
                          · rw [HF.out]; exact World.ownsRow_nil _ _ _ _
                          · rw [HF.out]; rfl
                        ·
                          have Had := Lib.hid had
                          clear had
                          by_cases h18 : 18 < la.length
                          ·
                            have HF : Hid (headS s = (Req.zero, 0, 380)) := Lib.hid (HT6.out.trans (by rw [HE.out.1 (.inr (.inr (.inr (.inr h18))))]; rfl))
                            have h182 : (18 : Int) < la.length := by omega
                            go_wp2_with fail
                            go_step3
                            refine Hgo.out _ _ ?_
                            have c0 := HI7.out.rg.cell 0 _ rfl
                            have f0 := HI7.out.rg.free 0
                            have c1 := HI7.out.rg.cell 1 _ rfl
                            have f1 := HI7.out.rg.free 1
                            have c2 := HI7.out.rg.cell 2 _ rfl
                            have f2 := HI7.out.rg.free 2
                            have c3 := HI7.out.rg.cell 3 _ rfl
                            have f3 := HI7.out.rg.free 3
                            have c4 := HI7.out.rg.cell 4 _ rfl
                            have f4 := HI7.out.rg.free 4
                            have c5 := HI7.out.rg.cell 5 _ rfl
                            have f5 := HI7.out.rg.free 5
                            go_wp2_with fail
                            refine Hret0.out _ _ ?_
                            refine (MK.leaves (l := [.string ⟨#[]⟩, .string ⟨#[]⟩, .string ⟨#[]⟩, .slice none 0 0, .slice none 0 0, .bool false]) (MK.set (MK.set (MK.set (MK.set (MK.set (MK.set (HI7.out.toMK hg5) 0 _ (by simp)) 1 _ (by simp)) 2 _ (by simp)) 3 _ (by simp)) 4 _ (by simp)) 5 _ (by simp)) (fun W9 hW1 hW2 hW3 => ?_))
                            replace c0 := hW2 0 _ rfl
                            replace c1 := hW2 1 _ rfl
                            replace c2 := hW2 2 _ rfl
                            replace c3 := hW2 3 _ rfl
                            replace c4 := hW2 4 _ rfl
                            replace c5 := hW2 5 _ rfl
                            refine leaves_none2 ⟨.tuple #[.agg #[.string ⟨#[]⟩, .string ⟨#[]⟩, .string ⟨#[]⟩, .slice none 0 0, .slice none 0 0, .bool false], .int .i64 0, .int .i64 380], by simp [results, Tryz.results19, go_sem, c0, c1, c2, c3, c4, c5], ⟨.slice none 0 0, ?_, ?_⟩, hW3⟩
                            · rw [HF.out]; exact World.ownsRow_nil _ _ _ _
                            · rw [HF.out]; rfl
                          ·
                            obtain ⟨n, hv, hnb9, hcnt9⟩ := HE.out.2 Hn.out (by have := Hm.out; omega) (by simp) Had.out (by omega)
                            have Hc9 := Lib.hid hcnt9
                            have h182 : ¬ (18 : Int) < la.length := by omega
                            obtain rfl : n = 0 := by omega
                            clear hcnt9 hnb9 hv
                            have HF : Hid (headS s = (⟨m, u, q, hs, [], (valuesS hs nConn).any closesS⟩, 0, 0)) := Lib.hid (HT6.out.trans (by rw [show countS hs = (0, 0) from Hc9.out.trans (if_pos (by decide))]; rfl))
                            have c0 := HI7.out.rg.cell 0 _ rfl
                            have f0 := HI7.out.rg.free 0
                            have kq0 := HI7.out.rq.cell 0 _ rfl
                            have fq0 := HI7.out.rq.free 0
                            have c1 := HI7.out.rg.cell 1 _ rfl
                            have f1 := HI7.out.rg.free 1
                            have kq1 := HI7.out.rq.cell 1 _ rfl
                            have fq1 := HI7.out.rq.free 1
                            have c2 := HI7.out.rg.cell 2 _ rfl
                            have f2 := HI7.out.rg.free 2
                            have kq2 := HI7.out.rq.cell 2 _ rfl
                            have fq2 := HI7.out.rq.free 2
                            have c3 := HI7.out.rg.cell 3 _ rfl
                            have f3 := HI7.out.rg.free 3
                            have kq3 := HI7.out.rq.cell 3 _ rfl
                            have fq3 := HI7.out.rq.free 3
                            have c4 := HI7.out.rg.cell 4 _ rfl
                            have f4 := HI7.out.rg.free 4
                            have kq4 := HI7.out.rq.cell 4 _ rfl
                            have fq4 := HI7.out.rq.free 4
                            have c5 := HI7.out.rg.cell 5 _ rfl
                            have f5 := HI7.out.rg.free 5
                            have kq5 := HI7.out.rq.cell 5 _ rfl
                            have fq5 := HI7.out.rq.free 5
                            generalize hcl : (valuesS hs nConn).any closesS = cl at *
                            have Hcl := Lib.hid hcl
                            clear hcl kc0 kc1 fc0 fc1 fc2 kc2
                            go_wp2_with fail
                            refine Hret.out _ _ ?_
                            refine (MK.leaves (l := [.string ⟨m.toArray⟩, .string ⟨u.toArray⟩, .string ⟨q.toArray⟩, .slice (some ⟨cb, 0, none⟩) hs.length ccap, .slice none 0 0, .bool cl]) (MK.set (MK.set (MK.set (MK.set (MK.set (MK.set (HI7.out.toMK hg5) 0 _ (by simp)) 1 _ (by simp)) 2 _ (by simp)) 3 _ (by simp)) 4 _ (by simp)) 5 _ (by simp)) (fun W9 hW1 hW2 hW3 => ?_))
                            replace c0 := hW2 0 _ rfl
                            replace c1 := hW2 1 _ rfl
                            replace c2 := hW2 2 _ rfl
                            replace c3 := hW2 3 _ rfl
                            replace c4 := hW2 4 _ rfl
                            replace c5 := hW2 5 _ rfl
                            refine leaves_none2 ⟨.tuple #[.agg #[.string ⟨m.toArray⟩, .string ⟨u.toArray⟩, .string ⟨q.toArray⟩, .slice (some ⟨cb, 0, none⟩) hs.length ccap, .slice none 0 0, .bool cl], .int .i64 0, .int .i64 0], by simp [results, Tryz.results19, go_sem, c0, c1, c2, c3, c4, c5], ⟨.slice (some ⟨cb, 0, none⟩) hs.length ccap, ?_, ?_⟩, hW3⟩
                            · rw [HF.out]; exact (HdrV.ck (ownsRow_setCell_below (ownsRow_setCell_below (ownsRow_setCell_below (ownsRow_setCell_below (ownsRow_setCell_below (ownsRow_setCell_below HI7.out.row hg5 _) hg5 _) hg5 _) hg5 _) hg5 _) hg5 _) hW1).le (Nat.le_of_lt hg5)
                            · rw [HF.out]; rfl
                      ·
                        have HF : Hid (headS s = (Req.zero, 0, 380)) := Lib.hid (HT6.out.trans (by rw [HE.out.1 (.inl hn)]; rfl))
                        have hnb : ((nh : Int) != 1) = true := by rw [bne_iff_ne]; omega
                        clear hn
                        go_wp2_with fail
                        go_step3
                        refine Hgo.out _ _ ?_
                        have c0 := HI.out.rg.cell 0 _ rfl
                        have f0 := HI.out.rg.free 0
                        have c1 := HI.out.rg.cell 1 _ rfl
                        have f1 := HI.out.rg.free 1
                        have c2 := HI.out.rg.cell 2 _ rfl
                        have f2 := HI.out.rg.free 2
                        have c3 := HI.out.rg.cell 3 _ rfl
                        have f3 := HI.out.rg.free 3
                        have c4 := HI.out.rg.cell 4 _ rfl
                        have f4 := HI.out.rg.free 4
                        have c5 := HI.out.rg.cell 5 _ rfl
                        have f5 := HI.out.rg.free 5
                        go_wp2_with fail
                        refine Hret0.out _ _ ?_
                        refine (MK.leaves (l := [.string ⟨#[]⟩, .string ⟨#[]⟩, .string ⟨#[]⟩, .slice none 0 0, .slice none 0 0, .bool false]) (MK.set (MK.set (MK.set (MK.set (MK.set (MK.set (HI.out.toMK hg5) 0 _ (by simp)) 1 _ (by simp)) 2 _ (by simp)) 3 _ (by simp)) 4 _ (by simp)) 5 _ (by simp)) (fun W9 hW1 hW2 hW3 => ?_))
                        replace c0 := hW2 0 _ rfl
                        replace c1 := hW2 1 _ rfl
                        replace c2 := hW2 2 _ rfl
                        replace c3 := hW2 3 _ rfl
                        replace c4 := hW2 4 _ rfl
                        replace c5 := hW2 5 _ rfl
                        refine leaves_none2 ⟨.tuple #[.agg #[.string ⟨#[]⟩, .string ⟨#[]⟩, .string ⟨#[]⟩, .slice none 0 0, .slice none 0 0, .bool false], .int .i64 0, .int .i64 380], by simp [results, Tryz.results19, go_sem, c0, c1, c2, c3, c4, c5], ⟨.slice none 0 0, ?_, ?_⟩, hW3⟩
                        · rw [HF.out]; exact World.ownsRow_nil _ _ _ _
                        · rw [HF.out]; rfl
        ·
          have HF : Hid (headS s = (Req.zero, 0, er)) := by show headS s = _; rw [HT3.out, if_pos her]
          have her2 : (er != 0) = true := by rw [bne_iff_ne]; exact her
          clear HT3 her
          have c0 := RG5.out.cell 0 _ rfl
          have f0 := RG5.out.free 0
          have c1 := RG5.out.cell 1 _ rfl
          have f1 := RG5.out.free 1
          have c2 := RG5.out.cell 2 _ rfl
          have f2 := RG5.out.free 2
          have c3 := RG5.out.cell 3 _ rfl
          have f3 := RG5.out.free 3
          have c4 := RG5.out.cell 4 _ rfl
          have f4 := RG5.out.free 4
          have c5 := RG5.out.cell 5 _ rfl
          have f5 := RG5.out.free 5
          clear RG5 RC5 RL5 RQ5 He5
          go_wp2_with fail
          go_step3
          refine Hgo.out _ _ ?_
          go_wp2_with fail
          refine Hret0.out _ _ ?_
          refine leaves_none ⟨.tuple #[.agg #[.string ⟨#[]⟩, .string ⟨#[]⟩, .string ⟨#[]⟩, .slice none 0 0, .slice none 0 0, .bool false], .int .i64 0, .int .i64 er], by simp [results, Tryz.results19, go_sem, c0, c1, c2, c3, c4, c5], ⟨.slice none 0 0, ?_, ?_⟩, by go_grown⟩
          · rw [HF.out]; exact World.ownsRow_nil _ _ _ _
          · rw [HF.out]; rfl
    ·
      have HF := Lib.hid (hI.out (fun h => hB h.2))
      subst hA
      have c0 := RG1.out.cell 0 _ rfl
      have f0 := RG1.out.free 0
      have c1 := RG1.out.cell 1 _ rfl
      have f1 := RG1.out.free 1
      have c2 := RG1.out.cell 2 _ rfl
      have f2 := RG1.out.free 2
      have c3 := RG1.out.cell 3 _ rfl
      have f3 := RG1.out.free 3
      have c4 := RG1.out.cell 4 _ rfl
      have f4 := RG1.out.free 4
      have c5 := RG1.out.cell 5 _ rfl
      have f5 := RG1.out.free 5
      clear hI RG1 He1
      go_wp2_with fail
      refine Hret.out _ _ ?_
      refine leaves_none ⟨.tuple #[.agg #[.string ⟨#[]⟩, .string ⟨#[]⟩, .string ⟨#[]⟩, .slice none 0 0, .slice none 0 0, .bool false], .int .i64 0, .int .i64 380], by simp [results, Tryz.results19, go_sem, c0, c1, c2, c3, c4, c5], ⟨.slice none 0 0, ?_, ?_⟩, by go_grown⟩
      · rw [HF.out]; exact World.ownsRow_nil _ _ _ _
      · rw [HF.out]; rfl
  ·
    have HF := Lib.hid (hI.out (fun h => hA h.1))
    have hAn : (ix != (s.length : Int) - 4) = true := by rw [bne_iff_ne]; exact hA
    have c0 := RG1.out.cell 0 _ rfl
    have f0 := RG1.out.free 0
    have c1 := RG1.out.cell 1 _ rfl
    have f1 := RG1.out.free 1
    have c2 := RG1.out.cell 2 _ rfl
    have f2 := RG1.out.free 2
    have c3 := RG1.out.cell 3 _ rfl
    have f3 := RG1.out.free 3
    have c4 := RG1.out.cell 4 _ rfl
    have f4 := RG1.out.free 4
    have c5 := RG1.out.cell 5 _ rfl
    have f5 := RG1.out.free 5
    clear hI RG1 He1 hA
    go_wp2_with fail
    refine Hret.out _ _ ?_
    refine leaves_none ⟨.tuple #[.agg #[.string ⟨#[]⟩, .string ⟨#[]⟩, .string ⟨#[]⟩, .slice none 0 0, .slice none 0 0, .bool false], .int .i64 0, .int .i64 380], by simp [results, Tryz.results19, go_sem, c0, c1, c2, c3, c4, c5], ⟨.slice none 0 0, ?_, ?_⟩, by go_grown⟩
    · rw [HF.out]; exact World.ownsRow_nil _ _ _ _
    · rw [HF.out]; rfl
end Go.Proofs.YtgdfgppgfkkncaaGreatDoor
