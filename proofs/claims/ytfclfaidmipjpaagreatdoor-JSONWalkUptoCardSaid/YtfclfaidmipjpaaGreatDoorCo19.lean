/- Texts of this claim, joined: Tws, Ppa, Twl, Tww, Qu4, Trr. -/
import Derived.Test.YtfclfaidmipjpaaGreatDoorCo11
import Derived.Test.YtfclfaidmipjpaaGreatDoorCo18
namespace Go.Proofs.YtfclfaidmipjpaaGreatDoor
set_option maxRecDepth 100000
set_option maxHeartbeats 20000000
open Go.Lib (hid)
open Go.RowKit
theorem ta_writer (v : Value) (W : World) : (Instr.typeAssert (.iface 302 v) 304 306 true).run Tryz.prog W = .ok (.tuple #[.iface 302 v, .bool true]) W := by kernel_rfl
theorem gsw_calls (gb : Nat) (w : World) :
  Calls Tryz.prog 272 #[.iface 302 (.pointer (some ⟨gb, 0, none⟩))] w fun e w' => e = .returned (.iface 302 (.pointer (some ⟨gb, 0, none⟩))) ∧ w = w' := by
 have hta := ta_writer (.pointer (some ⟨gb, 0, none⟩))
 go_enter Tryz.func272, Tryz.ntmps272
 go_wp2_with fail
 go_ret
 exact ⟨rfl, rfl⟩
theorem wpList_append_W {w : World} {ops : Array Oper} {rest : List Oper} {o : Oper} {a : Act} {Q : Exit → Act → World → Prop} (hgd : o.guard = none) (s x : Operand)
  (ho : o.op = .call { callee := .builtin .append, args := #[s, x], argTypes := #[301, 9] })
  (B : Nat) (v : Value) (l : List UInt8) (hs : a.eval s = v) (hown : FB w B v l) (m : List UInt8)
  (hx : a.eval x = .string ⟨m.toArray⟩) (hlen : l.length + m.length ≤ 100000000000) (hbase : B ≤ w.heap.size)
  (h : ∀ v' w', FB w' B v' (l ++ m) → w.grownBy w' v.ownBlock → wpList Tryz.prog ops Q rest (a.put o.dst v') w') :
  wpList Tryz.prog ops Q (o :: rest) a w := by
 obtain ⟨i0, hi, hz0, hz1, hz2⟩ := info_parts Tryz.infoByte
 have hms : (⟨m.toArray⟩ : ByteArray).size = m.length := by simp [ByteArray.size]
 refine Lib.wpList_append_own_stringF _ hgd s x 301 9 ho B 5 i0 Tryz.underlying301 Tryz.underlying9 hi hz0 hz1 hz2 v l.length (u8s l) hs hown ⟨m.toArray⟩ hx ?_ ?_ hbase ?_
 ·rw [hms]; unfold maxLen; omega
 ·rw [hms]; omega
 ·intro v' w' h1 h2 _
  refine h v' w' ?_ h2
  unfold FB
  rw [u8s_app, List.length_append]
  rw [hms] at h1
  exact h1
structure BufAt (w : World) (B gb : Nat) (l : List UInt8) : Prop where
 ex : ∃ v, w.heap[gb]? = some (.cells #[v] 301 (0, 0)) ∧ FB w B v l
 lo : B ≤ gb
theorem BufAt.lt {w : World} {B gb : Nat} {l : List UInt8} (h : BufAt w B gb l) : gb < w.heap.size := by
 obtain ⟨v, h1, _⟩ := h.ex
 exact (Array.getElem?_eq_some_iff.1 h1).1
theorem BufAt.below {w w' : World} {B gb : Nat} {l : List UInt8} (h : BufAt w B gb l) (hb : Below w.heap.size w w') : BufAt w' B gb l := by
 obtain ⟨v, h1, h2⟩ := h.ex
 exact ⟨⟨v, (hb.block gb h.lt).trans h1, h2.below hb⟩, h.lo⟩
theorem BufAt.put {w w' : World} {B gb : Nat} {l m : List UInt8} {v v' : Value} (h : w.heap[gb]? = some (.cells #[v] 301 (0, 0))) (hlo : B ≤ gb) (hv : FB w B v l) (hf : FB w' B v' m) (hg : w.grownBy w' v.ownBlock) :
  BufAt (w'.setCell ⟨gb, 0, none⟩ v') B gb m ∧ Below B w (w'.setCell ⟨gb, 0, none⟩ v') := by
 have hlt := (Array.getElem?_eq_some_iff.1 h).1
 have hne : some gb ≠ v.ownBlock := fun e => by
  obtain ⟨c, fz, hc⟩ := Lib.ownsRowF_kind hv gb e.symm
  rw [h] at hc
  injection hc with hc
  injection hc with _ h2
  exact absurd h2 (by decide)
 have h1 : w'.heap[gb]? = some (.cells #[v] 301 (0, 0)) := (hg.block gb hlt hne).trans h
 have hne2 : v'.ownBlock ≠ some gb := fun e => by
  obtain ⟨c, fz, hc⟩ := Lib.ownsRowF_kind hf gb e
  rw [h1] at hc
  injection hc with hc
  injection hc with _ h2
  exact absurd h2 (by decide)
 refine ⟨⟨⟨v', ?_, ?_⟩, hlo⟩, ?_⟩
 ·rw [Joins.block_setCell h1]; rfl
 ·refine ⟨hf.1, ?_⟩
  rcases hf.2 with hn | ⟨g, cap, cur, fz, hv2, hbg, hgg, rest⟩
  ·exact .inl hn
  refine .inr ⟨g, cap, cur, fz, hv2, hbg, ?_, rest⟩
  have hgne : g ≠ gb := fun e => hne2 (by rw [hv2, e]; rfl)
  rw [(Apart.set (S := fun k => k = gb) w' (a := ⟨gb, 0, none⟩) rfl v').block g (Array.getElem?_eq_some_iff.1 hgg).1 hgne]
  exact hgg
 ·have h2 : Below B w w' := by
   by_cases hB : B ≤ w.heap.size
   ·exact (Below.refl B w).grown hg hB (fun k hk => (hv.lt k hk).1)
   ·exact absurd (Nat.le_trans hlo (Nat.le_of_lt hlt)) hB
  exact h2.setCell (p := ⟨gb, 0, none⟩) hlo v'
theorem asw_calls (B gb : Nat) (l m : List UInt8) (w : World) (h : BufAt w B gb l) (hl : l.length + m.length ≤ 10000000000) :
  Calls Tryz.prog 283 #[.pointer (some ⟨gb, 0, none⟩), .string ⟨m.toArray⟩] w fun e w' => e = .returned (.tuple #[.int .i64 (m.length : Int), .nilIface]) ∧ BufAt w' B gb (l ++ m) ∧ Below B w w' := by
 obtain ⟨v, h1, h2⟩ := h.ex
 have H1 := hid h1
 have H2 := hid h2
 have HLO := hid h.lo
 have hlt := h.lt
 have c0 : w.cell? ⟨gb, 0, none⟩ = some v := by rw [Joins.cell_of_block h1]; rfl
 have HBS : Hid (B ≤ w.heap.size) := hid (Nat.le_trans h.lo (Nat.le_of_lt hlt))
 have HLT := hid hlt
 have HL := hid hl
 clear h h1 h2 hlt hl
 go_enter Tryz.func283, Tryz.ntmps283
 go_wp2_with (at_builtin; refine wpList_append_W rfl _ _ rfl B v l rfl H2.out m rfl ?e1 ?e2 ?_)
 case e1 => have := HL.out; omega
 case e2 => exact HBS.out
 intro v' w' hF hg
 obtain ⟨pv, cv, hpv⟩ := hF.slice
 rw [List.length_append] at hpv
 subst hpv
 have hput := BufAt.put H1.out HLO.out H2.out hF hg
 have hne : some gb ≠ v.ownBlock := fun e => by
  obtain ⟨c, fz, hc⟩ := Lib.ownsRowF_kind H2.out gb e.symm
  rw [H1.out] at hc
  injection hc with hc
  injection hc with _ h2
  exact absurd h2 (by decide)
 have h1' : w'.heap[gb]? = some (.cells #[v] 301 (0, 0)) := (hg.block gb HLT.out hne).trans H1.out
 have k0 : w'.cell? ⟨gb, 0, none⟩ = some v := by rw [Joins.cell_of_block h1']; rfl
 have f0 := Joins.unfrozen_of_block h1' 0
 have HP := hid hput
 clear hput h1' hne hF hg c0
 go_wp2_with fail
 go_ret2
 exact ⟨rfl, HP.out.1, HP.out.2⟩
def splitC (c : UInt8) : List UInt8 → List (List UInt8)
 | [] => [[]]
 | x :: t => if x = c then [] :: splitC c t else match splitC c t with
  | [] => [[x]]
  | h :: r => (x :: h) :: r
theorem splitC_ne (c : UInt8) (s : List UInt8) : ∃ h r, splitC c s = h :: r := by
 cases s with
 | nil => exact ⟨_, _, rfl⟩
 | cons x t =>
  rw [splitC]
  split
  ·exact ⟨_, _, rfl⟩
  split <;> exact ⟨_, _, rfl⟩
theorem split_one (c : UInt8) : ∀ s : List UInt8, Lib.split s [c] = splitC c s
 | [] => rfl
 | x :: t => by
  have ih := split_one c t
  unfold Lib.split at ih ⊢
  rw [splitC]
  by_cases e : x = c
  ·subst e
   rw [if_pos rfl, Lib.count_cons_eq, Nat.add_comm, Lib.splitK]
   have hi : Lib.index (x :: t) [x] = 0 := by simp [Lib.index]
   rw [hi, if_neg (by decide)]
   simp [ih]
  rw [if_neg e, Lib.count_cons_ne x c t e]
  have hi : Lib.index (x :: t) [c] = if Lib.index t [c] == -1 then -1 else Lib.index t [c] + 1 := by
   rw [Lib.index, if_neg]
   simp [List.isPrefixOf, Ne.symm e]
  cases hk : Lib.count t [c] with
  | zero =>
   rw [hk, Lib.splitK] at ih
   rw [Lib.splitK, ← ih]
  | succ k =>
   rw [hk, Lib.splitK] at ih
   rw [Lib.splitK, hi]
   by_cases h1 : (Lib.index t [c] == -1) = true
   ·rw [if_pos h1] at ih ⊢
    rw [if_pos (by decide), ← ih]
   rw [if_neg h1] at ih ⊢
   have h2 := Lib.index_ge t [c]
   have h3 : Lib.index t [c] ≠ -1 := by simpa using h1
   rw [if_neg (by simp; omega), ← ih]
   have h4 : (Lib.index t [c] + 1).toNat = (Lib.index t [c]).toNat + 1 := by omega
   simp only [h4, Nat.add_zero, List.take_succ_cons, List.length_singleton, List.drop_succ_cons]
def tilN : List UInt8 → Option (List UInt8)
 | [] => some []
 | c :: t => if c = 126 then (match t with
   | [] => none
   | c2 :: r => if c2 = 48 then (tilN r).map (126 :: ·) else if c2 = 49 then (tilN r).map (47 :: ·) else none)
  else (tilN t).map (c :: ·)
theorem tilN_cons (c : UInt8) (t : List UInt8) (h : c ≠ 126) : tilN (c :: t) = (tilN t).map (c :: ·) := by
 cases t with
 | nil => simp [tilN, h]
 | cons c2 r => rw [tilN, if_neg h]
def tilAll : List (List UInt8) → Option (List (List UInt8))
 | [] => some []
 | s :: r => match tilN s with
  | none => none
  | some u => (tilAll r).map (u :: ·)
def pathS (s : List UInt8) : Option (List (List UInt8)) := match s with
 | [] => some []
 | c :: t => if c = 47 then tilAll (splitC 47 t) else none
def replS (a b : List UInt8) : List UInt8 → List UInt8
 | [] => []
 | [c] => [c]
 | c :: c2 :: r => if c = 126 then (if c2 = 48 then a ++ replS a b r else if c2 = 49 then b ++ replS a b r else 126 :: replS a b (c2 :: r))
  else c :: replS a b (c2 :: r)
theorem replS_cons (a b : List UInt8) (c : UInt8) (t : List UInt8) (h : c ≠ 126) : replS a b (c :: t) = c :: replS a b t := by
 cases t with
 | nil => rfl
 | cons c2 r => rw [replS, if_neg h]
theorem tilN_none : ∀ s : List UInt8, (tilN s = none ↔ 126 ∈ replS [] [] s) ∧ ∀ u, tilN s = some u → u = replS [126] [47] s
 | [] => by simp [tilN, replS]
 | c :: t => by
  by_cases h : c = 126
  ·subst h
   cases t with
   | nil => simp [tilN, replS]
   | cons c2 r =>
    have ih := tilN_none r
    by_cases h48 : c2 = 48
    ·subst h48
     simp only [tilN, replS]
     simp only [if_true, List.nil_append, Option.map_eq_none_iff, List.singleton_append, Option.map_eq_some_iff]
     exact ⟨ih.1, fun u ⟨v, h1, h2⟩ => by rw [← h2, ih.2 v h1]⟩
    by_cases h49 : c2 = 49
    ·subst h49
     simp only [tilN, replS]
     simp only [if_true, if_neg (show ¬ (49 : UInt8) = 48 by decide), List.nil_append, Option.map_eq_none_iff, List.singleton_append, Option.map_eq_some_iff]
     exact ⟨ih.1, fun u ⟨v, h1, h2⟩ => by rw [← h2, ih.2 v h1]⟩
    simp [tilN, replS, h48, h49]
  have ih := tilN_none t
  rw [tilN_cons _ _ h, replS_cons _ _ _ _ h, replS_cons _ _ _ _ h]
  simp only [Option.map_eq_none_iff, Option.map_eq_some_iff, List.mem_cons]
  exact ⟨⟨fun h1 => .inr (ih.1.1 h1), fun h1 => ih.1.2 (h1.resolve_left (fun e => h e.symm))⟩, fun u ⟨v, h1, h2⟩ => by rw [← h2, ih.2 v h1]⟩
open Go.RowKit
def TrieLt (B gr gt gA gu gB gC : Nat) : Prop := gr < B ∧ gt < B ∧ gA < B ∧ gu < B ∧ gB < B ∧ gC < B
theorem TrieAt.under {w w' : World} {B lo gr : Nat} {a b : List UInt8} {gt gA gu gB gC : Nat} (h : TrieAt w lo gr a b gt gA gu gB gC) (hl : TrieLt B gr gt gA gu gB gC) (hb : Below B w w') : TrieAt w' lo gr a b gt gA gu gB gC := by
 have ha : Apart (fun k => B ≤ k) w w' := ⟨hb.os, hb.tape, hb.output, hb.size, fun k _ hn => hb.block k (by omega)⟩
 obtain ⟨l1, l2, l3, l4, l5, l6⟩ := hl
 exact ⟨h.g.apart ha (by omega), h.t.apart ha (by omega), h.nA.apart ha (by omega), h.u.apart ha (by omega), h.nB.apart ha (by omega), h.nC.apart ha (by omega), h.lo, h.ne⟩
theorem repl_look (a b s : List UInt8) : ((lookS a b s).2.2 = true ∧ (lookS a b s).2.1 = 2 ∧ 2 ≤ s.length ∧ replS a b s = (lookS a b s).1 ++ replS a b (s.drop 2)) ∨ ((lookS a b s).2.2 = false ∧ (lookS a b s).2.1 = 0 ∧ (s = [] ∨ ∃ c t, s = c :: t ∧ replS a b s = c :: replS a b t)) := by
 match s with
 | [] => exact .inr ⟨rfl, rfl, .inl rfl⟩
 | [c] => exact .inr ⟨by by_cases h : c = 126 <;> (try subst h) <;> first | rfl | (rw [lookS_one a b c [] h]), by by_cases h : c = 126 <;> (try subst h) <;> first | rfl | (rw [lookS_one a b c [] h]), .inr ⟨c, [], rfl, rfl⟩⟩
 | c :: d :: t =>
  by_cases h : c = 126
  ·subst h
   by_cases h0 : d = 48
   ·subst h0; exact .inl ⟨rfl, rfl, by simp, rfl⟩
   by_cases h1 : d = 49
   ·subst h1; exact .inl ⟨rfl, rfl, by simp, rfl⟩
   rw [lookS_two a b d t h0 h1]
   refine .inr ⟨rfl, rfl, .inr ⟨126, d :: t, rfl, ?_⟩⟩
   rw [replS, if_pos rfl, if_neg h0, if_neg h1]
  rw [lookS_one a b c (d :: t) h]
  exact .inr ⟨rfl, rfl, .inr ⟨c, d :: t, rfl, replS_cons a b c (d :: t) h⟩⟩
def WrI (a b s acc : List UInt8) (last i : Nat) : Prop := acc ++ ((s.take i).drop last ++ replS a b (s.drop i)) = replS a b s
theorem WrI.start (a b s : List UInt8) : WrI a b s [] 0 0 := by simp [WrI]
theorem WrI.step {a b s acc : List UInt8} {last i : Nat} (h : WrI a b s acc last i) (hi : i < s.length) (hl : last ≤ i) (hr : replS a b (s.drop i) = s.getD i 0 :: replS a b (s.drop (i + 1))) : WrI a b s acc last (i + 1) := by
 unfold WrI at h ⊢
 rw [← h, hr, List.take_succ_eq_append_getElem hi, List.drop_append_of_le_length (by rw [List.length_take]; omega)]
 simp [List.getD_eq_getElem?_getD, hi]
theorem WrI.over {a b s acc : List UInt8} {last i : Nat} (h : WrI a b s acc last i) (hi : s.length ≤ i) : acc ++ s.drop last = replS a b s := by
 unfold WrI at h
 rw [← h, List.take_of_length_le hi, List.drop_eq_nil_of_le hi]
 simp [replS]
theorem WrI.past {a b s acc : List UInt8} {last i : Nat} (h : WrI a b s acc last i) (hi : s.length ≤ i) : WrI a b s acc last (i + 1) := by
 unfold WrI at h ⊢
 rw [← h, List.take_of_length_le hi, List.take_of_length_le (show s.length ≤ i + 1 by omega), List.drop_eq_nil_of_le hi, List.drop_eq_nil_of_le (show s.length ≤ i + 1 by omega)]
theorem WrI.turn {a b s acc x : List UInt8} {last i : Nat} (h : WrI a b s acc last i) (hr : replS a b (s.drop i) = x ++ replS a b (s.drop (i + 2))) : WrI a b s (acc ++ (s.take i).drop last ++ x) (i + 2) (i + 2) := by
 unfold WrI at h ⊢
 have h0 : (s.take (i + 2)).drop (i + 2) = [] := List.drop_eq_nil_of_le (by rw [List.length_take]; omega)
 rw [← h, hr, h0]
 simp [List.append_assoc]
theorem ext_drop9 (l : List UInt8) (a : Nat) : (⟨l.toArray⟩ : ByteArray).extract a l.length = ⟨(l.drop a).toArray⟩ := by rw [Lib.extract_eq]; rw [List.take_of_length_le (by simp)]
theorem replS_len (a b : List UInt8) (h : a.length ≤ 4 ∧ b.length ≤ 4) : ∀ (n : Nat) (s : List UInt8), s.length ≤ n → (replS a b s).length ≤ 9 * s.length
 | _, [], _ => by simp [replS]
 | _, [_], _ => by simp [replS]
 | 0, _ :: _ :: _, hn => by simp at hn
 | n + 1, c :: d :: t, hn => by
  have h1 := replS_len a b h n t (by simp at hn; omega)
  have h2 := replS_len a b h n (d :: t) (by simp at hn ⊢; omega)
  rw [replS]
  simp only [List.length_cons] at h2 ⊢
  split
  ·split
   ·rw [List.length_append]; omega
   split
   ·rw [List.length_append]; omega
   rw [List.length_cons]; omega
  rw [List.length_cons]; omega
theorem WrI.len {a b s acc : List UInt8} {last i : Nat} (h : WrI a b s acc last i) (hab : a.length ≤ 4 ∧ b.length ≤ 4) : acc.length ≤ 9 * s.length := by
 have h1 := replS_len a b hab _ s (Nat.le_refl _)
 have h2 := congrArg List.length h
 simp only [List.length_append] at h2
 omega
open Go.RowKit
theorem na_writer (gb : Nat) (W : World) : (nilAhead 414 302 (.pointer (some ⟨gb, 0, none⟩)) "WriteString").run Tryz.prog W = .ok (some false) W := by kernel_rfl
theorem gws_calls (w : World) {B lo gr gb : Nat} {a b : List UInt8} {gt gA gu gB gC : Nat} (h : TrieAt w lo gr a b gt gA gu gB gC) (hlt : TrieLt B gr gt gA gu gB gC) (hbuf : BufAt w B gb []) (hab : a.length ≤ 4 ∧ b.length ≤ 4) (s : List UInt8) (hsl : s.length ≤ 100000000) :
  Calls Tryz.prog 271 #[.pointer (some ⟨gr, 0, none⟩), .iface 302 (.pointer (some ⟨gb, 0, none⟩)), .string ⟨s.toArray⟩] w fun e w' => (∃ v, e = .returned v) ∧ BufAt w' B gb (replS a b s) ∧ Below B w w' := by
 have HT := hid h
 have HLT := hid hlt
 have HBUF := hid hbuf
 have HAB := hid hab
 have HBS : Hid (B ≤ w.heap.size) := hid (Nat.le_trans hbuf.lo (Nat.le_of_lt hbuf.lt))
 clear h hlt hbuf hab
 have hna := na_writer gb
 have hmf : ∀ (m : String) (first cap : Array Value) (w : World), (Instr.makeFunc (.method m) first cap).run Tryz.prog w = .ok (.func (.method m) first cap) w := fun _ _ _ _ => rfl
 have hw0 : IntKind.i64.wrap 0 = 0 := rfl
 have hw1 : IntKind.i64.wrap 1 = 1 := rfl
 have hw2 : IntKind.i64.wrap 2 = 2 := rfl
 have hw3 : IntKind.i64.wrap 3 = 3 := rfl
 go_enter Tryz.func271, Tryz.ntmps271
 go_wp2_with fail
 refine (gsw_calls gb w).mono ?_
 rintro e w1 ⟨rfl, rfl⟩
 go_wp2_with fail
 go_loopg [6, 7, 9, 10, 11, 12] (s.length + 2) (fun kk s6 s7 s9 s10 s11 s12 wr => ∃ (i last : Nat) (n : Int) (acc : List UInt8) (x10 : Value), kk = s.length + 2 - i ∧ i ≤ s.length + 1 ∧ last ≤ i ∧ last ≤ s.length ∧ s6 = .int .i64 n ∧ s7 = .nilIface ∧ s9 = .int .i64 (last : Int) ∧ x10 = s10 ∧ s11 = .bool false ∧ s12 = .int .i64 (i : Int) ∧ BufAt wr B gb acc ∧ Below B w wr ∧ WrI a b s acc last i)
 case atStart => exact ⟨0, 0, 0, [], _, rfl, by omega, by omega, by omega, rfl, rfl, rfl, rfl, rfl, rfl, HBUF.out, Below.refl _ _, WrI.start a b s⟩
 case round =>
  obtain ⟨i, last, n, acc, x10, hki, hi, hli, hls, rfl, rfl, rfl, rfl, rfl, rfl, hbf, hbr, hwr⟩ := hrel
  have Hki := hid hki
  have HBF := hid hbf
  have HBR := hid hbr
  have HWR := hid hwr
  have HLI := hid hli
  have HTR := hid (HT.out.under HLT.out hbr)
  have HACC := hid (hwr.len HAB.out)
  clear hki hbf hbr hwr hli HBUF
  have k1 := HTR.out.g.pri
  have k4 := HTR.out.g.tab
  have k5 := HTR.out.g.size
  by_cases hlt : i < s.length
  ·
   have hlti : (i : Int) < (s.length : Int) := by omega
   have hltj : (i : Int) ≤ (s.length : Int) := by omega
   have hltk : ((i : Int) == (s.length : Int)) = false := by rw [beq_eq_false_iff_ne]; omega
   have hij := byte_at s i hlt
   obtain ⟨c, hc⟩ : ∃ c, s.getD i 0 = c := ⟨_, rfl⟩
   rw [hc] at hij
   have HC := hid hc
   have hdc : s.drop i = c :: s.drop (i + 1) := by rw [List.drop_eq_getElem_cons hlt, ← hc]; simp [List.getD_eq_getElem?_getD, hlt]
   have HDC := hid hdc
   clear hc hdc
   have hcl : c.toNat < 256 := c.toNat_lt
   have hcli : (c.toNat : Int) < 256 := by omega
   have km := HTR.out.g.map c
   have HM := hid (mapV_cases c)
   obtain ⟨m, hm⟩ : ∃ m, mapV c = m := ⟨_, rfl⟩
   rw [hm] at km HM
   clear hm
   go_wp2_with fail
   go_quiet (fail)
   have HTQ := hid (HTR.out.below (below_drewN (Below.refl _ _) nq))
   have HBQ := hid (HBR.out.trans (below_drewN (Below.refl B wr) nq))
   have HFQ := hid (HBF.out.below (below_drewN (Below.refl _ _) nq))
   generalize wr.drewN nq = wq at *
   clear k1 k4 k5 km HTR HBR HBF hij
   have k1 := HTQ.out.g.pri
   have k4 := HTQ.out.g.tab
   have k5 := HTQ.out.g.size
   rcases HM.out with ⟨hc, rfl⟩ | ⟨hc, rfl⟩ | ⟨hc, rfl⟩ | ⟨hc1, hc2, hc, rfl⟩
   ·
    rw [show wrap64 0 = 0 from (by unfold wrap64; omega)]
    have HWN : Hid (WrI a b s acc last (i + 1)) := hid (HWR.out.step hlt HLI.out (by rw [HDC.out, HC.out]; exact replS_cons a b c _ (by first | exact hc | (rw [hc]; decide))))
    have t0 : _ = some (Value.pointer none) := HTQ.out.t.cell 0 _ rfl
    go_wp2_with fail
    go_roundg (s.length + 2 - (i + 1))
    case measure => have := Hki.out; omega
    exact ⟨i + 1, last, n, acc, _, rfl, by omega, by have := HLI.out; omega, hls, rfl, rfl, rfl, rfl, rfl, by go_num, HFQ.out, HBQ.out, HWN.out⟩
   ·
    rw [show wrap64 1 = 1 from (by unfold wrap64; omega)]
    have HWN : Hid (WrI a b s acc last (i + 1)) := hid (HWR.out.step hlt HLI.out (by rw [HDC.out, HC.out]; exact replS_cons a b c _ (by first | exact hc | (rw [hc]; decide))))
    have t0 : _ = some (Value.pointer none) := HTQ.out.t.cell 1 _ rfl
    go_wp2_with fail
    go_roundg (s.length + 2 - (i + 1))
    case measure => have := Hki.out; omega
    exact ⟨i + 1, last, n, acc, _, rfl, by omega, by have := HLI.out; omega, hls, rfl, rfl, rfl, rfl, rfl, by go_num, HFQ.out, HBQ.out, HWN.out⟩
   ·
    rw [show wrap64 2 = 2 from (by unfold wrap64; omega)]
    have t0 : _ = some (Value.pointer (some ⟨gA, 0, none⟩)) := HTQ.out.t.cell 2 _ rfl
    have hext := ext_drop9 s i
    have hdl : (s.drop i).length ≤ 1000000000 := by rw [List.length_drop]; omega
    go_wp2_with fail
    refine (look_calls wq HTQ.out (s.drop i) hdl).mono ?_
    rintro e w2 ⟨rfl, hb2⟩
    have HT2 := hid (HTQ.out.below hb2)
    have HB2 := hid (HBQ.out.trans (hb2.mono (Nat.le_trans HBS.out HBQ.out.size)))
    have HF2 := hid (HFQ.out.below hb2)
    clear hb2 k1 k4 k5 t0 HTQ HBQ HFQ hext hdl
    have HRL := hid (repl_look a b (s.drop i))
    obtain ⟨q, hq⟩ : ∃ q, lookS a b (s.drop i) = q := ⟨_, rfl⟩
    rw [hq] at HRL ⊢
    clear hq
    obtain ⟨val, kl, fd⟩ := q
    rcases HRL.out with ⟨hf1, hf2, hf3, hf4⟩ | ⟨hf1, hf2, hf3⟩
    ·
     simp only at hf1 hf2 hf4
     subst hf1 hf2
     rw [List.drop_drop] at hf4
     have HRR := hid hf4
     have hi2 : i + 2 ≤ s.length := by rw [List.length_drop] at hf3; omega
     clear hf3 hf4
     have HVL : Hid (val.length ≤ 900000000) := hid (by have h1 := replS_len a b HAB.out _ (s.drop i) (Nat.le_refl _); rw [HRR.out, List.length_append, List.length_drop] at h1; omega)
     go_upto_region 13 with fail
     have hex2 : (⟨s.toArray⟩ : ByteArray).extract last i = ⟨((s.take i).drop last).toArray⟩ := by rw [Lib.extract_eq, List.drop_take]
     have hb1 : (last : Int) ≤ (i : Int) := by have := HLI.out; omega
     have HFD := hid (HF2.out.below (Below.refl _ _).drew)
     have HBD := hid (HB2.out.trans ((Below.refl B w2).drew))
     refine wp_region_held_drew (S := (fun _ : World => True)) (by kernel_rfl) trivial (fun hHeld0 => ?_)
     generalize w2.drew = wd at *
     refine held_ta 0 hHeld0 ?_
     refine held_ta 1 hHeld0 ?_
     refine held_ta 2 hHeld0 ?_
     refine held_ta 3 hHeld0 ?_
     refine held_ta 4 hHeld0 ?_
     refine held_ta 5 hHeld0 ?_
     refine held_ta 6 hHeld0 ?_
     refine held_ta 7 hHeld0 ?_
     refine held_st 8 rfl (fun K hK => ?_)
     go_simp
     refine (asw_calls B gb acc ((s.take i).drop last) wd HFD.out (by have h8 := HACC.out; have h9 : ((s.take i).drop last).length ≤ s.length := (by rw [List.length_drop, List.length_take]; omega); omega)).mono ?_
     rintro ez w3 ⟨rfl, hf3, hb3⟩
     have HF3 := hid hf3
     have HB3 := hid (HBD.out.trans hb3)
     clear hf3 hb3
     refine hK.out _ _ trivial (fun hHeld1 => ?_)
     clear hK K hHeld0
     refine held_ta 9 hHeld1 ?_
     refine held_ta 10 hHeld1 ?_
     refine held_ta 11 hHeld1 ?_
     refine held_ta 12 hHeld1 ?_
     refine held_ta 13 hHeld1 ?_
     refine wpAnyH_done (by kernel_rfl) ?_ _
     clear hHeld1
     go_wp2_with fail
     refine (asw_calls B gb _ val w3 HF3.out (by have h8 := HACC.out; have h7 := HVL.out; have h9 : ((s.take i).drop last).length ≤ s.length := (by rw [List.length_drop, List.length_take]; omega); rw [List.length_append]; omega)).mono ?_
     rintro ez w4 ⟨rfl, hf4, hb4⟩
     have HF4 := hid hf4
     have HB4 := hid (HB3.out.trans hb4)
     clear hf4 hb4
     go_wp2_with fail
     go_roundg (s.length + 2 - (i + 2))
     case measure => have := Hki.out; omega
     exact ⟨i + 2, i + 2, _, acc ++ (s.take i).drop last ++ val, _, rfl, by omega, by omega, hi2, rfl, rfl, by go_num, rfl, rfl, by go_num, HF4.out, HB4.out, HWR.out.turn HRR.out⟩
    simp only at hf1 hf2
    subst hf1 hf2
    have HWN : Hid (WrI a b s acc last (i + 1)) := hid (HWR.out.step hlt HLI.out (by rcases hf3 with h9 | ⟨c9, t9, h9, h8⟩; (rw [HDC.out] at h9; cases h9); (rw [HDC.out] at h9; injection h9 with h9 h10; rw [h8, HC.out, h9, h10])))
    clear hf3
    go_wp2_with fail
    go_roundg (s.length + 2 - (i + 1))
    case measure => have := Hki.out; omega
    exact ⟨i + 1, last, n, acc, _, rfl, by omega, by have := HLI.out; omega, hls, rfl, rfl, rfl, rfl, rfl, by go_num, HF2.out, HB2.out, HWN.out⟩
   rw [show wrap64 3 = 3 from (by unfold wrap64; omega)]
   have HWN : Hid (WrI a b s acc last (i + 1)) := hid (HWR.out.step hlt HLI.out (by rw [HDC.out, HC.out]; exact replS_cons a b c _ (by first | exact hc | (rw [hc]; decide))))
   go_wp2_with fail
   go_roundg (s.length + 2 - (i + 1))
   case measure => have := Hki.out; omega
   exact ⟨i + 1, last, n, acc, _, rfl, by omega, by have := HLI.out; omega, hls, rfl, rfl, rfl, rfl, rfl, by go_num, HFQ.out, HBQ.out, HWN.out⟩
  by_cases hle : i = s.length
  ·
   have HWN : Hid (WrI a b s acc last (i + 1)) := hid (HWR.out.past (by omega))
   have HIS := hid hle
   subst hle
   have hltj : (s.length : Int) ≤ (s.length : Int) := by omega
   have hext : (⟨s.toArray⟩ : ByteArray).extract s.length s.length = ⟨([] : List UInt8).toArray⟩ := by rw [ext_drop9]; simp
   clear hlt
   go_wp2_with fail
   refine (look_calls wr HTR.out [] (by simp)).mono ?_
   rintro e w2 ⟨rfl, hb2⟩
   have HB2 := hid (HBR.out.trans (hb2.mono (Nat.le_trans HBS.out HBR.out.size)))
   have HF2 := hid (HBF.out.below hb2)
   clear hb2 k1 k4 k5 HTR HBR HBF hext
   rw [show lookS a b [] = ([], 0, false) from rfl]
   go_wp2_with fail
   go_roundg (s.length + 2 - (s.length + 1))
   case measure => have := Hki.out; omega
   exact ⟨s.length + 1, last, n, acc, _, rfl, by omega, by omega, hls, rfl, rfl, rfl, rfl, rfl, by go_num, HF2.out, HB2.out, HWN.out⟩
  obtain rfl : i = s.length + 1 := by omega
  have hnle : ¬ ((s.length + 1 : Nat) : Int) ≤ (s.length : Int) := by omega
  have HFN := hid (HWR.out.over (by omega))
  by_cases hll : last = s.length
  ·
   have HFA : Hid (acc = replS a b s) := hid (by have h9 := HFN.out; rw [hll, List.drop_length, List.append_nil] at h9; exact h9)
   subst hll
   go_wp2_with fail
   go_ret2
   exact ⟨⟨_, rfl⟩, by rw [← HFA.out]; exact HBF.out, HBR.out⟩
  have hlk : ((last : Int) == (s.length : Int)) = false := by rw [beq_eq_false_iff_ne]; omega
  have hlj : (last : Int) ≤ (s.length : Int) := by omega
  go_upto_region 23 with fail
  have hex2 := ext_drop9 s last
  have HFD := hid (HBF.out.below (Below.refl _ _).drew)
  have HBD := hid (HBR.out.trans ((Below.refl B wr).drew))
  refine wp_region_held_drew (S := (fun _ : World => True)) (by kernel_rfl) trivial (fun hHeld0 => ?_)
  generalize wr.drew = wd at *
  refine held_ta 0 hHeld0 ?_
  refine held_ta 1 hHeld0 ?_
  refine held_ta 2 hHeld0 ?_
  refine held_ta 3 hHeld0 ?_
  refine held_ta 4 hHeld0 ?_
  refine held_ta 5 hHeld0 ?_
  refine held_ta 6 hHeld0 ?_
  refine held_st 7 rfl (fun K hK => ?_)
  go_simp
  refine (asw_calls B gb acc (s.drop last) wd HFD.out (by have h8 := HACC.out; have h9 : (s.drop last).length ≤ s.length := (by rw [List.length_drop]; omega); omega)).mono ?_
  rintro ez w3 ⟨rfl, hf3, hb3⟩
  have HF3 := hid hf3
  have HB3 := hid (HBD.out.trans hb3)
  clear hf3 hb3
  refine hK.out _ _ trivial (fun hHeld1 => ?_)
  clear hK K hHeld0
  refine held_ta 8 hHeld1 ?_
  refine held_ta 9 hHeld1 ?_
  refine held_ta 10 hHeld1 ?_
  refine held_ta 11 hHeld1 ?_
  refine held_ta 12 hHeld1 ?_
  refine wpAnyH_done (by kernel_rfl) ?_ _
  clear hHeld1
  go_wp2_with fail
  go_ret2
  exact ⟨⟨_, rfl⟩, by rw [← HFN.out]; exact HF3.out, HB3.out⟩
open Go.RowKit
theorem FB.string {w : World} {B : Nat} {v : Value} {l : List UInt8} (h : FB w B v l) : (convert 22 9 v).run Tryz.prog w = .ok (.string ⟨l.toArray⟩) w := by
 rcases h.2 with ⟨hv, h0⟩ | ⟨g, cap, cur, fz, hv, hbg, hg, rest⟩
 ·obtain rfl := List.length_eq_zero_iff.1 h0
  rw [hv]
  exact run_convert_bytes_nil w 22 5 Tryz.underlying22 Tryz.underlying5 0 0 9 Tryz.underlying9
 have hob : v.ownBlock = some g := by rw [hv]; rfl
 rw [hv]
 refine run_convert_bytes_back w 22 9 5 ⟨g, 0, none⟩ cap l Tryz.underlying22 Tryz.underlying5 Tryz.underlying9 (fun j hj => ?_)
 have hc := World.ownsRowF.cells h hob j (.int .u8 (((l.getD j 0).toNat : Nat) : Int)) (u8s_at l j hj)
 have e : l.getD j 0 = l[j] := by simp [hj]
 rw [e] at hc
 exact hc
open Go.RowKit
theorem wpList_make_W {w : World} {ops : Array Oper} {rest : List Oper} {o : Oper} {a : Act} {Q : Exit → Act → World → Prop}
  (hg : o.guard = none) (l c : Operand) (hop : o.op = Op.makeSlice 301 l c)
  (C : Int) (n : Nat) (hl : a.eval l = .int .i64 0) (hc : a.eval c = .int .i64 C) (hC : C = (n : Int)) (b2 : n ≤ 1000000000000)
  (hK : ∀ w', FB w' w.heap.size (.slice (some ⟨w.heap.size, 0, none⟩) 0 n) [] → Below w.heap.size w w' → wpList Tryz.prog ops Q rest (a.put o.dst (.slice (some ⟨w.heap.size, 0, none⟩) 0 n)) w') :
  wpList Tryz.prog ops Q (o :: rest) a w := by
 obtain ⟨i0, hi, hz0, hz1, hz2⟩ := info_parts Tryz.info5
 refine wpList_make_own w hg l c 301 hop w.heap.size 5 i0 (.int .u8 0) 1 Tryz.underlying301 hi hz0 hz1 .i64 .i64 C n hl hc hC (by rw [hz2]; omega) (by unfold maxLen; omega) (Nat.le_refl _) ?_
 intro w' h1 h2
 exact hK w' (World.ownsRowF_of h1) ((Below.refl _ _).grown h2 (Nat.le_refl _) (fun k hk => by cases hk))
theorem FB.stringW {w : World} {B : Nat} {v : Value} {l : List UInt8} (h : FB w B v l) : (convert 301 9 v).run Tryz.prog w = .ok (.string ⟨l.toArray⟩) w := by
 rcases h.2 with ⟨hv, h0⟩ | ⟨g, cap, cur, fz, hv, hbg, hg, rest⟩
 ·obtain rfl := List.length_eq_zero_iff.1 h0
  rw [hv]
  exact run_convert_bytes_nil w 301 5 Tryz.underlying301 Tryz.underlying5 0 0 9 Tryz.underlying9
 have hob : v.ownBlock = some g := by rw [hv]; rfl
 rw [hv]
 refine run_convert_bytes_back w 301 9 5 ⟨g, 0, none⟩ cap l Tryz.underlying301 Tryz.underlying5 Tryz.underlying9 (fun j hj => ?_)
 have hc := World.ownsRowF.cells h hob j (.int .u8 (((l.getD j 0).toNat : Nat) : Int)) (u8s_at l j hj)
 have e : l.getD j 0 = l[j] := by simp [hj]
 rw [e] at hc
 exact hc
theorem heap_alloc9 (w : World) (o : Obj) : (w.alloc o).heap[w.heap.size]? = some o := by show (w.heap.push o)[w.heap.size]? = some o; simp
theorem TrieAt.lt {w : World} {lo gr : Nat} {a b : List UInt8} {gt gA gu gB gC : Nat} (h : TrieAt w lo gr a b gt gA gu gB gC) : TrieLt w.heap.size gr gt gA gu gB gC := by
 refine ⟨h.g.lt, ?_, ?_, ?_, ?_, ?_⟩
 all_goals first | exact h.t.lt | exact h.nA.lt | exact h.u.lt | exact h.nB.lt | exact h.nC.lt
theorem grR_calls (w : World) {lo gr : Nat} {a b : List UInt8} {gt gA gu gB gC : Nat} (h : TrieAt w lo gr a b gt gA gu gB gC) (hab : a.length ≤ 4 ∧ b.length ≤ 4) (s : List UInt8) (hsl : s.length ≤ 100000000) :
  Calls Tryz.prog 270 #[.pointer (some ⟨gr, 0, none⟩), .string ⟨s.toArray⟩] w fun e w' => e = .returned (.string ⟨(replS a b s).toArray⟩) ∧ Below w.heap.size w w' := by
 have HT := hid h
 have HLT := hid h.lt
 have HAB := hid hab
 clear h hab
 go_enter Tryz.func270, Tryz.ntmps270
 go_wp2_with (at_make; go_must (refine wpList_make_W rfl _ _ rfl _ s.length rfl rfl rfl ?_ ?_))
 ·omega
 intro w1 hf1 hb1
 have HF := hid hf1
 have HB := hid hb1
 clear hf1 hb1
 go_wp2_with fail
 refine (gws_calls _ (HT.out.under HLT.out (HB.out.alloc HB.out.size _)) HLT.out ⟨⟨_, ?hh, HF.out.alloc _⟩, HB.out.size⟩ HAB.out s hsl).mono ?_
 case hh => exact heap_alloc9 _ _
 rintro e w2 ⟨⟨v2, rfl⟩, hbf, hb2⟩
 obtain ⟨v3, hv3, hf3⟩ := hbf.ex
 have c3 : w2.cell? ⟨w1.heap.size, 0, none⟩ = some v3 := by rw [Joins.cell_of_block hv3]; rfl
 have hcv := hf3.stringW
 have HBX := hid ((HB.out.alloc HB.out.size _).trans hb2)
 clear hbf hv3 hf3 hb2
 go_wp2_with fail
 go_ret
 exact ⟨rfl, HBX.out⟩
end Go.Proofs.YtfclfaidmipjpaaGreatDoor
