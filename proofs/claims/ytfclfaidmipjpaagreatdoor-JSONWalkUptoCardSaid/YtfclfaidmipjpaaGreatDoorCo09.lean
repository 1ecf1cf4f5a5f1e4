/- Texts of this claim, joined: Qu1, Qu2, Qu3, JsZ. -/
import Derived.Lib.QuoteLoop
import Derived.Test.YtfclfaidmipjpaaGreatDoorCo04
import Derived.Test.YtfclfaidmipjpaaGreatDoorCo08
namespace Go.Proofs.YtfclfaidmipjpaaGreatDoor
set_option maxRecDepth 100000
set_option maxHeartbeats 20000000
open Go.Lib (hid)
open Go.RowKit
def FB (w : World) (B : Nat) (v : Value) (l : List UInt8) : Prop := w.ownsRowF B 5 1 v l.length (u8s l)
theorem FB.nil (w : World) (B : Nat) : FB w B (.slice none 0 0) [] := World.ownsRowF_nil w B _ 1
theorem FB.alloc {w : World} {B : Nat} {v : Value} {l : List UInt8} (h : FB w B v l) (o : Obj) : FB (w.alloc o) B v l := World.ownsRowF.alloc h o
theorem FB.lt {w : World} {B : Nat} {v : Value} {l : List UInt8} (h : FB w B v l) : ∀ k, v.ownBlock = some k → B ≤ k ∧ k < w.heap.size := World.ownsRowF.lt h
theorem FB.below {w w' : World} {B : Nat} {v : Value} {l : List UInt8} (h : FB w B v l) (hb : Below w.heap.size w w') : FB w' B v l := by
 refine ⟨h.1, ?_⟩
 rcases h.2 with hn | ⟨g, cap, cur, fz, hv, hbg, hg, rest⟩
 ·exact .inl hn
 exact .inr ⟨g, cap, cur, fz, hv, hbg, by rw [hb.block g (Array.getElem?_eq_some_iff.1 hg).1]; exact hg, rest⟩
theorem FB.iterAt {w : World} {B : Nat} {v : Value} {l : List UInt8} (h : FB w B v l) {k : Nat} {s : ByteArray} {pos : Nat} (hk : w.heap[k]? = some (.stringIter s pos)) (pos' : Nat) : FB (w.iterAt k s pos') B v l := by
 refine ⟨h.1, ?_⟩
 rcases h.2 with hn | ⟨g, cap, cur, fz, hv, hbg, hg, rest⟩
 ·exact .inl hn
 have hkg : g ≠ k := by
  intro e1
  rw [e1, hk] at hg
  cases hg
 exact .inr ⟨g, cap, cur, fz, hv, hbg, (Lib.iterAt_other w k g s pos' hkg).trans hg, rest⟩
theorem FB.slice {w : World} {B : Nat} {v : Value} {l : List UInt8} (h : FB w B v l) : ∃ p c, v = .slice p l.length c := by
 rcases h.2 with ⟨hv, h0⟩ | ⟨g, cap, cur, fz, hv, _⟩
 ·exact ⟨none, 0, by rw [hv, h0]⟩
 exact ⟨_, _, hv⟩
theorem kept_below {e : TypeId} {b : Option Nat} {w w1 w' : World} (h : Lib.OthersKept e b w w1) (hb : Below w1.heap.size w1 w') : Lib.OthersKept e b w w' :=
 fun k o hk hbb ho => by
  have h1 := h k o hk hbb ho
  rw [hb.block k (Array.getElem?_eq_some_iff.1 h1).1]
  exact h1
theorem wpList_append_F {w : World} {ops : Array Oper} {rest : List Oper} {o : Oper} {a : Act} {Q : Exit → Act → World → Prop} (hgd : o.guard = none) (s x : Operand)
  (ho : o.op = .call { callee := .builtin .append, args := #[s, x], argTypes := #[22, 22] })
  (B : Nat) (v : Value) (l : List UInt8) (hs : a.eval s = v) (hown : FB w B v l) (m : List UInt8) (cs : Array Value) (hcs : cs.toList = u8s m) (n : Nat) (hn : m.length = n)
  (hx : a.eval x = .slice (some ⟨w.heap.size, 0, none⟩) n n) (hlen : l.length + n ≤ 100000000000) (hbase : B ≤ w.heap.size)
  (h : ∀ v' w', FB w' B v' (l ++ m) → Below B w w' → Lib.OthersKept 5 none w w' → wpList Tryz.prog ops Q rest (a.put o.dst v') w') :
  wpList Tryz.prog ops Q (o :: rest) a (w.alloc (.cells cs 5)) := by
 obtain ⟨i0, hi, hz0, hz1, hz2⟩ := info_parts Tryz.infoByte
 subst hn
 refine wpList_append_ownF _ hgd s x 22 ho B 5 i0 (.int .u8 0) 1 1 Tryz.underlying22 hi hz0 hz1 hz2 rfl (by decide) v l.length (u8s l) hs (FB.alloc hown _) ⟨w.heap.size, 0, none⟩ m.length m.length (u8s m) hx (by rw [u8s_len]; omega) ?_ ?_ ?_ ?_ ?_ ?_
 ·intro j u hj
  have hadd : (⟨w.heap.size, 0, none⟩ : Addr).add j = ⟨w.heap.size, j, none⟩ := by unfold Addr.add; split <;> simp_all
  rw [hadd]
  have hc : cs[j]? = some u := by rw [← Array.getElem?_toList, hcs]; exact hj
  rw [World.cell?_alloc_at _ _ _ _ rfl]
  exact hc
 ·intro u hu
  obtain ⟨c, _, rfl⟩ := List.mem_map.1 hu
  rfl
 ·unfold maxLen; omega
 ·omega
 ·simp; omega
 ·intro v' w' h1 h2 _
  refine h v' w' ?_ (((Below.refl B w).alloc hbase _).grown h2 (by simp; omega) (fun k hk => (hown.lt k hk).1)) (((Lib.OthersKept.refl _ _ w).alloc _).grown h2 (Lib.ownsRowF_kind (FB.alloc hown _)))
  unfold FB
  rw [u8s_app, List.length_append]
  exact h1
/-! A text in quotes, plain. -/
def hexD (n : Nat) : UInt8 := ([48, 49, 50, 51, 52, 53, 54, 55, 56, 57, 97, 98, 99, 100, 101, 102] : List UInt8).getD n 48
def quoB (c : UInt8) : List UInt8 :=
 if c = 34 then [92, 34] else if c = 92 then [92, 92] else if c = 8 then [92, 98] else if c = 12 then [92, 102] else if c = 10 then [92, 110] else if c = 13 then [92, 114] else if c = 9 then [92, 116]
 else if c < 32 then [92, 117, 48, 48, hexD (c.toNat / 16), hexD (c.toNat % 16)] else [c]
def quoS (s : List UInt8) : List UInt8 := s.flatMap quoB
def quoT (s : List UInt8) : List UInt8 := 34 :: quoS s ++ [34]
theorem quoS_app (a b : List UInt8) : quoS (a ++ b) = quoS a ++ quoS b := List.flatMap_append
theorem quoB_len (c : UInt8) : 1 ≤ (quoB c).length ∧ (quoB c).length ≤ 6 := by
 unfold quoB
 repeat' split
 all_goals simp
theorem quoS_len (s : List UInt8) : (quoS s).length ≤ 6 * s.length := by
 induction s with
 | nil => simp [quoS]
 | cons c s ih =>
  have := (quoB_len c).2
  have e : quoS (c :: s) = quoB c ++ quoS s := rfl
  rw [e]
  simp
  omega
theorem quoT_len (s : List UInt8) : (quoT s).length ≤ 6 * s.length + 2 := by
 have := quoS_len s
 simp [quoT]
 omega
theorem quoB_high (c : UInt8) (h : 128 ≤ c.toNat) : quoB c = [c] := by
 have hn : ∀ x : UInt8, x.toNat < 128 → c ≠ x := fun x hx e => by rw [e] at h; omega
 unfold quoB
 rw [if_neg (hn _ (by decide)), if_neg (hn _ (by decide)), if_neg (hn _ (by decide)), if_neg (hn _ (by decide)), if_neg (hn _ (by decide)), if_neg (hn _ (by decide)), if_neg (hn _ (by decide)), if_neg]
 intro hlt
 have : c.toNat < 32 := hlt
 omega
theorem quoS_high (s : List UInt8) (h : ∀ c ∈ s, 128 ≤ c.toNat) : quoS s = s := by
 induction s with
 | nil => rfl
 | cons c s ih =>
  have e : quoS (c :: s) = quoB c ++ quoS s := rfl
  rw [e, quoB_high c (h c (List.mem_cons_self ..)), ih (fun x hx => h x (List.mem_cons_of_mem _ hx))]
  rfl
def sevenE : List UInt8 := [34, 92, 98, 102, 110, 114, 116]
def quoOK (c : UInt8) : Bool := (decide (Lib.indexByte sevenL c = -1) && (decide (quoB c = [92, 117, 48, 48, hexD (c.toNat / 16), hexD (c.toNat % 16)]) && decide (c.toNat < 32) || decide (quoB c = [c]) && decide (32 ≤ c.toNat))) || ((List.range 7).any fun i => decide (Lib.indexByte sevenL c = (i : Int)) && decide (quoB c = [92, sevenE.getD i 0]))
theorem quo_all : ((List.range 256).all fun n => quoOK (UInt8.ofNat n)) = true := by decide +kernel
theorem quo_cases (c : UInt8) : (∃ i : Nat, i < 7 ∧ Lib.indexByte sevenL c = (i : Int) ∧ quoB c = [92, sevenE.getD i 0]) ∨ (Lib.indexByte sevenL c = -1 ∧ ((c.toNat < 32 ∧ quoB c = [92, 117, 48, 48, hexD (c.toNat / 16), hexD (c.toNat % 16)]) ∨ (32 ≤ c.toNat ∧ quoB c = [c]))) := by
 have h := List.all_eq_true.1 quo_all c.toNat (List.mem_range.2 c.toNat_lt)
 rw [UInt8.ofNat_toNat] at h
 unfold quoOK at h
 rw [Bool.or_eq_true] at h
 rcases h with h | h
 ·right
  simp only [Bool.and_eq_true, Bool.or_eq_true, decide_eq_true_eq] at h
  exact ⟨h.1, h.2.elim (fun x => .inl ⟨x.2, x.1⟩) (fun x => .inr ⟨x.2, x.1⟩)⟩
 left
 obtain ⟨i, hi, hh⟩ := List.any_eq_true.1 h
 simp only [Bool.and_eq_true, decide_eq_true_eq] at hh
 exact ⟨i, List.mem_range.1 hi, hh.1, hh.2⟩
open Go.RowKit
theorem kept_iter {e : TypeId} {w w' : World} (h : Lib.OthersKept e none w w') {k : Nat} {s : ByteArray} {pos : Nat} (hk : w.heap[k]? = some (.stringIter s pos)) : w'.heap[k]? = some (.stringIter s pos) :=
 h k _ hk (by simp) (fun _ _ e1 => by cases e1)
def idxR (n : Nat) : Int := if n < 128 then Lib.indexByte sevenL (UInt8.ofNat n) else -1
def okR (n : Nat) : Prop := n < 55296 ∨ (57343 < n ∧ n ≤ 1114111)
theorem idxR_calls (n : Nat) (h : okR n) (w : World) : Calls Tryz.prog 105 #[.string ⟨#[34, 92, 8, 12, 10, 13, 9]⟩, .int .i32 (n : Int)] w fun e w' => e = .returned (.int .i64 (idxR n)) ∧ Below w.heap.size w w' := by
 unfold idxR
 by_cases h1 : n < 128
 ·rw [if_pos h1]
  refine (Tryz.strings_IndexRune_ascii _ _ _ (by omega) (by omega)).mono ?_
  rintro e w' ⟨rfl, rfl⟩
  refine ⟨?_, Below.refl _ _⟩
  rw [show (((n : Int).toNat).toUInt8) = UInt8.ofNat n from rfl]
  rfl
 rw [if_neg h1]
 by_cases h2 : n = 65533
 ·subst h2
  exact idxBad_calls w
 refine idxHigh_calls (n : Int) w ?_ (by omega)
 unfold okR at h
 omega
theorem apr_calls (B : Nat) (v : Value) (l : List UInt8) (n : Nat) (hn : n ≤ 1114111) (w : World) (h : FB w B v l) (hl : l.length ≤ 100000000000) (hB : B ≤ w.heap.size) :
  Calls Tryz.prog 106 #[v, .int .i32 (n : Int)] w fun e w' => ∃ v', e = .returned v' ∧ FB w' B v' (l ++ Lib.encodeRune (n : Int)) ∧ Below B w w' ∧ Lib.OthersKept 5 none w w' := by
 refine (Tryz.utf8_AppendRune_row B v l.length (u8s l) (n : Int) (by omega) (by omega) w h (by omega) hB).mono ?_
 rintro e w' ⟨v', rfl, hown, o, hg⟩
 refine ⟨v', rfl, ?_, ((Below.refl B w).alloc hB _).grown hg (by simp; omega) (fun k hk => (h.lt k hk).1), ((Lib.OthersKept.refl _ _ w).alloc _).grown hg (Lib.ownsRowF_kind (h.alloc _))⟩
 unfold FB
 rw [u8s_app, List.length_append, ← Lib.runeCells_length]
 rw [← Lib.byteCells_encodeRune] at hown ⊢
 exact hown
def quoR (n : Nat) : List UInt8 := if n < 128 then quoB (UInt8.ofNat n) else Lib.encodeRune (n : Int)
theorem enc_high (n : Nat) (h : 128 ≤ n) : ∀ c ∈ Lib.encodeRune (n : Int), 128 ≤ c.toNat := by
 intro c hc
 unfold Lib.encodeRune at hc
 obtain ⟨z, hz, rfl⟩ := List.mem_map.1 hc
 have hb := Lib.encodeRuneZ_byte _ z hz
 have h128 : 128 ≤ z := by
  unfold Lib.encodeRuneZ at hz
  split at hz
  ·omega
  split at hz
  ·simp at hz; omega
  split at hz
  ·simp at hz; omega
  split at hz
  ·simp at hz; omega
  simp at hz; omega
 rw [show (z.toNat.toUInt8).toNat = z.toNat % 256 from by simp [Nat.toUInt8]]
 omega
theorem quo_step (l : List UInt8) (hne : l ≠ []) (hv : Lib.validD l = true) :
  okR (Lib.decodeL l).1 ∧ 1 ≤ (Lib.decodeL l).2 ∧ (Lib.decodeL l).2 ≤ l.length ∧ Lib.validD (l.drop (Lib.decodeL l).2) = true ∧ quoS l = quoR (Lib.decodeL l).1 ++ quoS (l.drop (Lib.decodeL l).2) := by
 have hs := Lib.validD_step l hne
 rw [hv] at hs
 have hb : ¬ ((Lib.decodeL l).1 = 65533 ∧ (Lib.decodeL l).2 = 1) := fun hb => by
  rw [if_pos hb] at hs
  cases hs
 rw [if_neg hb] at hs
 have hok : okR (Lib.decodeL l).1 := by
  rw [Lib.decodeL_N]
  exact Lib.decodeN_valid _ _ _ _ _ (l.getD 0 0).toNat_lt
 refine ⟨hok, Lib.decodeL_width l, Lib.decodeL_le l hne, hs.symm, ?_⟩
 have he := Lib.encode_decode l hne hb
 have hq : quoS l = quoS (l.take (Lib.decodeL l).2) ++ quoS (l.drop (Lib.decodeL l).2) := by rw [← quoS_app, List.take_append_drop]
 rw [hq, ← he]
 congr 1
 unfold quoR
 by_cases h1 : (Lib.decodeL l).1 < 128
 ·rw [if_pos h1]
  have e1 : Lib.encodeRune ((Lib.decodeL l).1 : Int) = [UInt8.ofNat (Lib.decodeL l).1] := by
   unfold Lib.encodeRune
   rw [Lib.encodeRuneZ_one (by omega) (by omega)]
   rfl
  rw [e1]
  show quoB _ ++ [] = _
  rw [List.append_nil]
 ·rw [if_neg h1]
  exact quoS_high _ (enc_high _ (by omega))
open Go.RowKit
def QuoTo (B : Nat) (w : World) (l s : List UInt8) (e : Ending) (w' : World) : Prop := ∃ v', e = .returned v' ∧ FB w' B v' (l ++ quoT s) ∧ Below B w w' ∧ Lib.OthersKept 5 none w w'
def QuR (w : World) (B g : Nat) (l s : List UInt8) (gk : Nat) (s0 : Value) (wr : World) : Prop :=
 ∃ pos acc, FB wr B s0 (l ++ acc) ∧ wr.heap[g]? = some (.stringIter ⟨s.toArray⟩ pos) ∧ Below B w wr ∧ Lib.OthersKept 5 none w wr ∧ Lib.validD (s.drop pos) = true ∧ acc ++ quoS (s.drop pos) = 34 :: quoS s ∧ s.length < pos + gk ∧ acc.length ≤ 6 * pos + 1
theorem and15 (x : Nat) (h : x < 32) : bits .and .i32 (x : Int) 15 = ((x % 16 : Nat) : Int) := by
 have h9 : ((List.range 32).all fun n => decide (bits .and .i32 (n : Int) 15 = ((n % 16 : Nat) : Int))) = true := by decide +kernel
 simpa using List.all_eq_true.1 h9 x (List.mem_range.2 h)
theorem hex_at (d : Nat) (h : d < 16) : ∀ hh, (⟨#[48, 49, 50, 51, 52, 53, 54, 55, 56, 57, 97, 98, 99, 100, 101, 102]⟩ : ByteArray)[d]'hh = hexD d := by
 intro hh
 match d, h with
 | 0, _ => rfl
 | 1, _ => rfl
 | 2, _ => rfl
 | 3, _ => rfl
 | 4, _ => rfl
 | 5, _ => rfl
 | 6, _ => rfl
 | 7, _ => rfl
 | 8, _ => rfl
 | 9, _ => rfl
 | 10, _ => rfl
 | 11, _ => rfl
 | 12, _ => rfl
 | 13, _ => rfl
 | 14, _ => rfl
 | 15, _ => rfl
 | n + 16, h => omega
theorem seven_at (d : Nat) (h : d < 7) : ∀ hh, (⟨#[34, 92, 98, 102, 110, 114, 116]⟩ : ByteArray)[d]'hh = sevenE.getD d 0 := by
 intro hh
 match d, h with
 | 0, _ => rfl
 | 1, _ => rfl
 | 2, _ => rfl
 | 3, _ => rfl
 | 4, _ => rfl
 | 5, _ => rfl
 | 6, _ => rfl
 | n + 7, h => omega
theorem oper_append_F {w : World} {o : Oper} {a : Act} {Q : Exit → Act → World → Prop} {K : Act → World → Prop} (s x : Operand)
  (ho : o.op = .call { callee := .builtin .append, args := #[s, x], argTypes := #[22, 22] })
  (B : Nat) (v : Value) (l : List UInt8) (hs : a.eval s = v) (hown : FB w B v l) (m : List UInt8) (cs : Array Value) (hcs : cs.toList = u8s m) (n : Nat) (hn : m.length = n)
  (hx : a.eval x = .slice (some ⟨w.heap.size, 0, none⟩) n n) (hlen : l.length + n ≤ 100000000000) (hbase : B ≤ w.heap.size)
  (hK : ∀ v' w', FB w' B v' (l ++ m) → Below B w w' → Lib.OthersKept 5 none w w' → K (a.put o.dst v') w') :
  Oper.wp Tryz.prog o a (w.alloc (.cells cs 5)) K Q := by
 obtain ⟨i0, hi, hz0, hz1, hz2⟩ := info_parts Tryz.infoByte
 subst hn
 obtain ⟨v', w', hrun, h1, h2, _⟩ := run_append_ownF (P := Tryz.prog) (w.alloc (.cells cs 5)) B 22 o.type 5 i0 (.int .u8 0) 1 1 Tryz.underlying22 hi hz0 hz1 hz2 rfl (by decide) v l.length (u8s l) (FB.alloc hown _) ⟨w.heap.size, 0, none⟩ m.length m.length (u8s m) (by rw [u8s_len]; omega) (by
  intro j u hj
  have hadd : (⟨w.heap.size, 0, none⟩ : Addr).add j = ⟨w.heap.size, j, none⟩ := by unfold Addr.add; split <;> simp_all
  have hc : cs[j]? = some u := by rw [← Array.getElem?_toList, hcs]; exact hj
  rw [hadd, World.cell?_alloc_at _ _ _ _ rfl]
  exact hc) (by
  intro u hu
  obtain ⟨c, _, rfl⟩ := List.mem_map.1 hu
  rfl) (by unfold maxLen; omega) (by omega) (by simp; omega)
 unfold Oper.wp
 simp [execOp, ho, resolve, invoke, builtin, hs, hx, hrun, Result.andThen]
 refine hK v' w' ?_ (((Below.refl B w).alloc hbase _).grown h2 (by simp; omega) (fun k hk => (hown.lt k hk).1)) (((Lib.OthersKept.refl _ _ w).alloc _).grown h2 (Lib.ownsRowF_kind (FB.alloc hown _)))
 unfold FB
 rw [u8s_app, List.length_append]
 exact h1
theorem quoteP_calls (B : Nat) (v : Value) (l s : List UInt8) (w : World) (h : FB w B v l) (hv : Lib.validD s = true) (hl : l.length + 6 * s.length ≤ 10000000000) (hB : B ≤ w.heap.size) :
  Calls Tryz.prog 70 #[v, .string ⟨s.toArray⟩] w (QuoTo B w l s) := by
 have HV := hid hv
 clear hv
 have hsz : (⟨s.toArray⟩ : ByteArray).size = s.length := by simp [ByteArray.size]
 go_enter Tryz.func70, Tryz.ntmps70
 go_upto_region 2 with (at_builtin; refine wpList_append_F rfl _ _ rfl B _ _ rfl h [34] _ rfl 1 rfl rfl ?c1 ?c2 ?_)
 case c1 => omega
 case c2 => omega
 intro v1 w1 hF1 hB1 hO1
 go_wp2_with fail
 have hz1 : w.heap.size ≤ w1.heap.size := hB1.size
 go_loopg [0] (s.length + 1) (fun gk s0 wr => QuR w B w1.heap.size l s gk s0 wr)
 case atStart =>
  refine ⟨0, [34], hF1.alloc _, ?_, hB1.alloc (by omega) _, hO1.alloc _, HV.out, rfl, by omega, by simp⟩
  have := World.iter_heap w1 (⟨s.toArray⟩ : ByteArray) 0
  simpa using this
 case round =>
  obtain ⟨pos, acc, hF, hit, hb, hO, hvd, hq, hgk, hal⟩ := hrel
  have hszw : w1.heap.size < wr.heap.size := (Array.getElem?_eq_some_iff.1 hit).1
  have hBr : B ≤ wr.heap.size := Nat.le_trans hB hb.size
  have HF := hid hF
  have HBr := hid hb
  have HO := hid hO
  clear hF hb hO
  by_cases hp : pos < s.length
  ·
   have hp2 : pos < (⟨s.toArray⟩ : ByteArray).size := by rw [hsz]; exact hp
   obtain ⟨q1, q2, q3, q4, q5⟩ := quo_step (s.drop pos) (by simp; omega) hvd
   rw [show Lib.decodeL (s.drop pos) = Utf8.decode ⟨s.toArray⟩ pos from Lib.decodeL_drop ⟨s.toArray⟩ pos] at q1 q2 q3 q4 q5
   have hnx : ∀ ty, (Instr.next (.pointer (some ⟨w1.heap.size, 0, none⟩)) true ty).run Tryz.prog wr = _ := fun ty => Lib.run_next_any_at wr w1.heap.size ⟨s.toArray⟩ pos ty hit hp2
   have hit2 := Lib.iterAt_heap wr w1.heap.size ⟨s.toArray⟩ pos (pos + (Utf8.decode ⟨s.toArray⟩ pos).2) hit
   have HF2 := hid (HF.out.iterAt hit (pos + (Utf8.decode ⟨s.toArray⟩ pos).2))
   have HB2 := hid (Lib.below_iterAt HBr.out (k := w1.heap.size) (by omega) ⟨s.toArray⟩ (pos + (Utf8.decode ⟨s.toArray⟩ pos).2))
   have hO2 : Lib.OthersKept 5 none w (wr.iterAt w1.heap.size ⟨s.toArray⟩ (pos + (Utf8.decode ⟨s.toArray⟩ pos).2)) := by
    intro k x hk hbk hx
    have h1 := HO.out k x hk hbk hx
    rw [Lib.iterAt_other _ _ _ _ _ (fun e => by
     have h9 := (Array.getElem?_eq_some_iff.1 hk).1
     omega)]
    exact h1
   have hs2 : (wr.iterAt w1.heap.size ⟨s.toArray⟩ (pos + (Utf8.decode ⟨s.toArray⟩ pos).2)).heap.size = wr.heap.size := Lib.iterAt_size _ _ _ _
   rw [List.drop_drop] at q4 q5
   rw [List.length_drop] at q3
   have HQ : Hid (acc ++ quoR (Utf8.decode ⟨s.toArray⟩ pos).1 ++ quoS (s.drop (pos + (Utf8.decode ⟨s.toArray⟩ pos).2)) = 34 :: quoS s) := hid (by rw [← hq, q5, List.append_assoc])
   have HQ4 := hid q4
   have HO2 := hid hO2
   have HI2 := hid hit2
   clear q4 q5 hq hO2 hit2 hit hvd HF HBr HO
   generalize hw2 : wr.iterAt w1.heap.size ⟨s.toArray⟩ (pos + (Utf8.decode ⟨s.toArray⟩ pos).2) = w2 at *
   generalize hk2 : (Utf8.decode ⟨s.toArray⟩ pos).2 = k2 at *
   generalize hn2 : (Utf8.decode ⟨s.toArray⟩ pos).1 = n2 at *
   clear hw2 hk2 hn2 hp2
   have hnu : n2 ≤ 1114111 := by unfold okR at q1; omega
   have HOK := hid q1
   clear q1
   go_upto_region 4 with fail
   go_wp2_with fail
   refine (idxR_calls n2 HOK.out _).mono ?_
   rintro e w3 ⟨rfl, hb3⟩
   have HF3 := hid (HF2.out.below hb3)
   have HF3 := hid (HF2.out.below hb3)
   have hBw2 : B ≤ w2.heap.size := by omega
   have HB3 := hid (HB2.out.trans (hb3.mono hBw2))
   have HO3 := hid (kept_below HO2.out hb3)
   have HI3 : Hid (w3.heap[w1.heap.size]? = some (.stringIter ⟨s.toArray⟩ (pos + k2))) := hid (by rw [hb3.block _ (by omega)]; exact HI2.out)
   have hz3 : wr.heap.size ≤ w3.heap.size := by have := hb3.size; omega
   clear hb3 HF2 HB2 HO2 HI2
   have HQR : Hid ((quoR n2).length ≤ 6) := hid (by
    unfold quoR
    split
    ·exact (quoB_len _).2
    have h9 := Lib.runeCells_le (n2 : Int)
    rw [Lib.runeCells_length] at h9
    omega)
   have hca : idxR n2 = -1 ∧ (n2 < 32 ∧ quoR n2 = [92, 117, 48, 48, hexD (n2 / 16), hexD (n2 % 16)] ∨ 32 ≤ n2 ∧ quoR n2 = Lib.encodeRune (n2 : Int)) ∨ ∃ i : Nat, i < 7 ∧ idxR n2 = (i : Int) ∧ quoR n2 = [92, sevenE.getD i 0] := by
    by_cases h1 : n2 < 128
    ·have hq := quo_cases (UInt8.ofNat n2)
     have hn : (UInt8.ofNat n2).toNat = n2 := by simp; omega
     rw [hn] at hq
     unfold idxR quoR
     simp only [if_pos h1]
     rcases hq with ⟨i, hi, h2, h3⟩ | ⟨h2, h3 | ⟨h3, h4⟩⟩
     ·exact .inr ⟨i, hi, h2, h3⟩
     ·exact .inl ⟨h2, .inl h3⟩
     refine .inl ⟨h2, .inr ⟨h3, ?_⟩⟩
     rw [h4]
     unfold Lib.encodeRune
     rw [Lib.encodeRuneZ_one (by omega) (by omega)]
     rfl
    refine .inl ⟨by unfold idxR; rw [if_neg h1], .inr ⟨by omega, by unfold quoR; rw [if_neg h1]⟩⟩
   generalize hir : idxR n2 = ir at *
   clear hir
   have HQX := hid (rfl : quoR n2 = quoR n2)
   generalize quoR n2 = qr at *
   clear HQX
   have HAL : Hid ((l ++ acc).length ≤ 9999999995 ∧ acc.length ≤ 6 * pos + 1 ∧ s.length < pos + gk) := hid ⟨by simp; omega, hal, hgk⟩
   clear hal hgk
   rcases hca with ⟨rfl, ⟨hc1, hc2⟩ | ⟨hc1, hc2⟩⟩ | ⟨i, hi, rfl, hc2⟩
   ·
    have HC2 := hid hc2
    clear hc2
    have hc1b : (n2 : Int) < 32 := by omega
    have hd1 : n2 / 16 < 16 := by omega
    have hd2 : n2 % 16 < 16 := by omega
    have hx1 := hex_at _ hd1
    have hx2 := hex_at _ hd2
    have ha := and15 n2 hc1
    have hs1 : (n2 : Int) / 16 = ((n2 / 16 : Nat) : Int) := by omega
    generalize n2 / 16 = d1 at *
    generalize n2 % 16 = d2 at *
    generalize hexD d1 = e1 at *
    generalize hexD d2 = e2 at *
    have hd1b : (d1 : Int) < 16 := by omega
    have hd2b : (d2 : Int) < 16 := by omega
    go_upto_region 10 with fail
    have hd1c : (d1 : Int).toNat = d1 := by omega
    have hd2c : (d2 : Int).toNat = d2 := by omega
    have HF4a : Hid (FB w3.drew B u0 (l ++ acc)) := hid HF3.out
    have HB34 : Hid (Below B w3 w3.drew) := hid ⟨rfl, rfl, rfl, Nat.le_refl _, fun _ _ => rfl⟩
    have HO34 : Hid (Lib.OthersKept 5 none w3 w3.drew) := hid (Lib.OthersKept.refl _ _ w3)
    have HI4a : Hid (w3.drew.heap[w1.heap.size]? = some (.stringIter ⟨s.toArray⟩ (pos + k2))) := HI3
    have hz4 : wr.heap.size ≤ w3.drew.heap.size := hz3
    refine wp_region_held_drew (S := (fun _ : World => True)) (by kernel_rfl) trivial (fun hHeld0 => ?_)
    generalize hw4 : w3.drew = w4 at *
    refine held_ta 0 hHeld0 ?_
    refine held_ta 1 hHeld0 ?_
    refine held_ta 2 hHeld0 ?_
    refine held_ta 3 hHeld0 ?_
    refine held_ta 4 hHeld0 ?_
    refine held_ta 5 hHeld0 ?_
    refine held_ta 6 hHeld0 ?_
    refine held_st 7 rfl (fun K hK => ?_)
    go_simp
    refine hK.out _ _ trivial (fun hHeld1 => ?_)
    clear hK K hHeld0
    refine held_st 8 rfl (fun K hK => ?_)
    have HF3a : FB w4 B u0 (l ++ acc) := HF4a.out
    refine oper_append_F _ _ rfl B _ _ rfl HF3a [92, 117, 48, 48, e1, e2] _ rfl 6 rfl rfl (by have := HAL.out; omega) (by omega) ?_
    intro v4 w5 hF4 hB4 hO4
    refine hK.out _ _ trivial (fun hHeld2 => ?_)
    clear hK K hHeld1
    refine held_ta 9 hHeld2 ?_
    refine wpAnyH_done (by kernel_rfl) ?_ _
    clear hHeld2
    have HF4 : Hid (FB w5 B v4 (l ++ acc ++ qr)) := hid (by rw [HC2.out]; simpa [List.append_assoc] using hF4)
    have HB4 := hid ((HB3.out.trans HB34.out).trans hB4)
    have HO4 := hid ((HO3.out.trans HO34.out).trans hO4)
    have HI4 := hid (kept_iter hO4 HI4a.out)
    clear hF4 hB4 hO4
    go_wp2_with fail
    go_roundg (gk - 1)
    case measure => have := HAL.out; omega
    exact ⟨pos + k2, acc ++ qr, by rw [← List.append_assoc]; exact HF4.out, HI4.out, HB4.out, HO4.out, HQ4.out, HQ.out, by have := HAL.out; omega, by have := HAL.out; have := HQR.out; simp only [List.length_append]; omega⟩
   ·
    have HC2 := hid hc2
    clear hc2
    have hc1b : ¬ (n2 : Int) < 32 := by omega
    go_wp2_with fail
    refine (apr_calls B u0 (l ++ acc) n2 hnu w3 HF3.out (by have := HAL.out; omega) (by omega)).mono ?_
    rintro e w4 ⟨v4, rfl, hF4, hB4, hO4⟩
    have HF4 : Hid (FB w4 B v4 (l ++ acc ++ qr)) := hid (by rw [HC2.out]; simpa [List.append_assoc] using hF4)
    have HB4 := hid (HB3.out.trans hB4)
    have HO4 := hid (HO3.out.trans hO4)
    have HI4 := hid (kept_iter hO4 HI3.out)
    clear hF4 hB4 hO4
    go_wp2_with fail
    go_roundg (gk - 1)
    case measure => have := HAL.out; omega
    exact ⟨pos + k2, acc ++ qr, by rw [← List.append_assoc]; exact HF4.out, HI4.out, HB4.out, HO4.out, HQ4.out, HQ.out, by have := HAL.out; omega, by have := HAL.out; have := HQR.out; simp only [List.length_append]; omega⟩
   have HC2 := hid hc2
   clear hc2
   have hib : (i : Int) < 7 := by omega
   have hx1 := seven_at i hi
   generalize hy : sevenE.getD i 0 = y at *
   have hic : (i : Int).toNat = i := by omega
   go_wp2_with (at_builtin; refine wpList_append_F rfl _ _ rfl B _ _ rfl HF3.out [92, y] _ rfl 2 rfl rfl ?d1 ?d2 ?_)
   case d1 => have := HAL.out; omega
   case d2 => omega
   intro v4 w4 hF4 hB4 hO4
   have HF4 : Hid (FB w4 B v4 (l ++ acc ++ qr)) := hid (by rw [HC2.out]; simpa [List.append_assoc] using hF4)
   have HB4 := hid (HB3.out.trans hB4)
   have HO4 := hid (HO3.out.trans hO4)
   have HI4 := hid (kept_iter hO4 HI3.out)
   clear hF4 hB4 hO4
   go_wp2_with fail
   go_roundg (gk - 1)
   case measure => have := HAL.out; omega
   exact ⟨pos + k2, acc ++ qr, by rw [← List.append_assoc]; exact HF4.out, HI4.out, HB4.out, HO4.out, HQ4.out, HQ.out, by have := HAL.out; omega, by have := HAL.out; have := HQR.out; simp only [List.length_append]; omega⟩
  have hp2 : ¬ pos < (⟨s.toArray⟩ : ByteArray).size := by rw [hsz]; exact hp
  have hnx : ∀ ty, (Instr.next (.pointer (some ⟨w1.heap.size, 0, none⟩)) true ty).run Tryz.prog wr = _ := fun ty => Lib.run_next_end_at wr w1.heap.size ⟨s.toArray⟩ pos ty hit hp2
  rw [List.drop_eq_nil_of_le (by omega)] at hq hvd
  have hq2 : acc = 34 :: quoS s := by rw [← hq]; show _ = acc ++ []; rw [List.append_nil]
  have hqs := quoS_len s
  have HQL : Hid ((l ++ acc).length ≤ 10000000001) := hid (by rw [hq2]; simp only [List.length_append, List.length_cons]; omega)
  have HQ2 := hid hq2
  clear hq hq2 hvd hal hqs
  go_wp2_with (at_builtin; refine wpList_append_F rfl _ _ rfl B _ _ rfl HF.out [34] _ rfl 1 rfl rfl ?f1 ?f2 ?_)
  case f1 => have := HQL.out; omega
  case f2 => omega
  intro v4 w4 hF4 hB4 hO4
  go_wp2_with fail
  go_ret
  refine ⟨v4, rfl, ?_, HBr.out.trans hB4, HO.out.trans hO4⟩
  rw [HQ2.out] at hF4
  unfold quoT
  simpa [List.append_assoc] using hF4
theorem esc_z (z1 z2 : List UInt8) (s : List UInt8) : (escS z1 s = none ∧ escS z2 s = none) ∨ ∃ u1 u2 r a, escS z1 s = some (u1, r, a) ∧ escS z2 s = some (u2, r, a) ∧ (a = false → u1 = u2) := by
 cases s with
 | nil => exact .inl ⟨rfl, rfl⟩
 | cons c t =>
  simp only [escS]
  cases plainS c with
  | some m => exact .inr ⟨_, _, _, _, rfl, rfl, fun _ => rfl⟩
  | none =>
   simp only
   by_cases hc : c = 117
   ·rw [if_pos hc, if_pos hc]
    cases hexN 4 0 t with
    | none => exact .inl ⟨rfl, rfl⟩
    | some x =>
     obtain ⟨x, t2⟩ := x
     simp only
     by_cases hx : 55296 ≤ x ∧ x < 57344
     ·rw [if_pos hx, if_pos hx]
      cases pairS x t2 with
      | none => exact .inr ⟨_, _, _, _, rfl, rfl, fun h => by cases h⟩
      | some y => exact .inr ⟨_, _, _, _, rfl, rfl, fun _ => rfl⟩
     rw [if_neg hx, if_neg hx]; exact .inr ⟨_, _, _, _, rfl, rfl, fun _ => rfl⟩
   rw [if_neg hc, if_neg hc]; exact .inl ⟨rfl, rfl⟩
theorem qt_z (z1 z2 : List UInt8) : ∀ (n : Nat) (s : List UInt8), (qtN z1 n s = none ∧ qtN z2 n s = none) ∨ ∃ u1 u2 r a, qtN z1 n s = some (u1, r, a) ∧ qtN z2 n s = some (u2, r, a) ∧ (a = false → u1 = u2)
 | 0, s => .inl ⟨rfl, rfl⟩
 | n + 1, [] => .inl ⟨rfl, rfl⟩
 | n + 1, c :: t => by
  simp only [qtN]
  by_cases h1 : c.toNat < 32
  ·rw [if_pos h1, if_pos h1]; exact .inl ⟨rfl, rfl⟩
  rw [if_neg h1, if_neg h1]
  by_cases h2 : c = 34
  ·rw [if_pos h2, if_pos h2]; exact .inr ⟨_, _, _, _, rfl, rfl, fun _ => rfl⟩
  rw [if_neg h2, if_neg h2]
  by_cases h3 : c = 92
  ·rw [if_pos h3, if_pos h3]
   rcases esc_z z1 z2 t with ⟨e1, e2⟩ | ⟨u1, u2, r, a, e1, e2, e3⟩
   ·rw [e1, e2]; exact .inl ⟨rfl, rfl⟩
   rw [e1, e2]
   simp only
   rcases qt_z z1 z2 n r with ⟨f1, f2⟩ | ⟨v1, v2, r2, a2, f1, f2, f3⟩
   ·rw [f1, f2]; exact .inl ⟨rfl, rfl⟩
   rw [f1, f2]
   refine .inr ⟨_, _, _, _, rfl, rfl, fun h => ?_⟩
   simp only [Bool.or_eq_false_iff] at h
   rw [e3 h.1, f3 h.2]
  rw [if_neg h3, if_neg h3]
  rcases qt_z z1 z2 n t with ⟨f1, f2⟩ | ⟨v1, v2, r2, a2, f1, f2, f3⟩
  ·rw [f1, f2]; exact .inl ⟨rfl, rfl⟩
  rw [f1, f2]
  exact .inr ⟨_, _, _, _, rfl, rfl, fun h => by rw [f3 h]⟩
theorem qtS_z (z1 z2 s : List UInt8) : (qtS z1 s = none ∧ qtS z2 s = none) ∨ ∃ u1 u2 r a, qtS z1 s = some (u1, r, a) ∧ qtS z2 s = some (u2, r, a) ∧ (a = false → u1 = u2) := qt_z z1 z2 _ s
structure FlE (f g : Fl) : Prop where
 deep : f.deep = g.deep
 alone : f.alone = g.alone
 great : f.great = g.great
 twice : f.alone = false → f.twice = g.twice
theorem FlE.refl (f : Fl) : FlE f f := ⟨rfl, rfl, rfl, fun _ => rfl⟩
def AnE (x y : Option (J × List UInt8 × Fl)) (a : Bool) : Prop :=
 (x = none ∧ y = none) ∨ ∃ v1 v2 r f1 f2, x = some (v1, r, f1) ∧ y = some (v2, r, f2) ∧ FlE f1 f2 ∧ (f1.alone = false → v1 = v2) ∧ (a = true → f1.alone = true)
def NmE (x y : Option (List (List UInt8) × List UInt8 × Fl)) (a : Bool) : Prop :=
 (x = none ∧ y = none) ∨ ∃ v1 v2 r f1 f2, x = some (v1, r, f1) ∧ y = some (v2, r, f2) ∧ FlE f1 f2 ∧ (f1.alone = false → v1 = v2) ∧ (a = true → f1.alone = true)
theorem mem_z (z1 z2 : List UInt8) (obj : Bool) (n1 n2 : List (List UInt8)) (s : List UInt8) (f g : Fl) (h : FlE f g) (hn : f.alone = false → n1 = n2) : NmE (memS z1 obj n1 s f) (memS z2 obj n2 s g) f.alone := by
 unfold memS
 cases obj with
 | false => exact .inr ⟨_, _, _, _, _, rfl, rfl, h, hn, fun h => h⟩
 | true =>
  simp only [if_true]
  unfold nameS
  cases skipS s with
  | nil => exact .inl ⟨rfl, rfl⟩
  | cons c t =>
   simp only
   by_cases hc : c = 34
   ·rw [if_pos hc, if_pos hc]
    rcases qtS_z z1 z2 t with ⟨e1, e2⟩ | ⟨u1, u2, r, a, e1, e2, e3⟩
    ·rw [e1, e2]; exact .inl ⟨rfl, rfl⟩
    rw [e1, e2]
    simp only
    cases skipS r with
    | nil => exact .inl ⟨rfl, rfl⟩
    | cons c2 r2 =>
     simp only
     by_cases hc2 : c2 = 58
     ·rw [if_pos hc2, if_pos hc2]
      refine .inr ⟨_, _, _, _, _, rfl, rfl, ⟨h.deep, by simp only [h.alone], h.great, fun ha => ?_⟩, fun ha => ?_, fun ha => ?_⟩
      ·simp only [Bool.or_eq_false_iff] at ha ⊢
       rw [h.twice ha.1, hn ha.1, e3 ha.2]
      ·simp only [Bool.or_eq_false_iff] at ha
       rw [hn ha.1, e3 ha.2]
      simp only [ha, Bool.true_or]
     rw [if_neg hc2, if_neg hc2]; exact .inl ⟨rfl, rfl⟩
   rw [if_neg hc, if_neg hc]; exact .inl ⟨rfl, rfl⟩
theorem AnE.mono {x y : Option (J × List UInt8 × Fl)} {a b : Bool} (h : AnE x y a) (hb : b = true → a = true) : AnE x y b := by
 rcases h with h | ⟨v1, v2, r, f1, f2, h1, h2, h3, h4, h5⟩
 ·exact .inl h
 exact .inr ⟨v1, v2, r, f1, f2, h1, h2, h3, h4, fun hh => h5 (hb hh)⟩
theorem val_z (z1 z2 : List UInt8) : ∀ (n : Nat), (∀ d s f g, FlE f g → AnE (valS z1 n d s f) (valS z2 n d s g) f.alone) ∧ (∀ d obj s f g, FlE f g → AnE (inS z1 n d obj s f) (inS z2 n d obj s g) f.alone) ∧
  (∀ d obj l1 l2 n1 n2 s f g, FlE f g → (f.alone = false → l1 = l2 ∧ n1 = n2) → AnE (itemS z1 n d obj l1 n1 s f) (itemS z2 n d obj l2 n2 s g) f.alone) := by
 intro n
 induction n with
 | zero => exact ⟨fun d s f g _ => .inl ⟨rfl, rfl⟩, fun d obj s f g _ => .inl ⟨rfl, rfl⟩, fun d obj l1 l2 n1 n2 s f g _ _ => .inl ⟨rfl, rfl⟩⟩
 | succ n ih =>
  obtain ⟨i1, i2, i3⟩ := ih
  refine ⟨fun d s f g h => ?_, fun d obj s f g h => ?_, fun d obj l1 l2 n1 n2 s f g h hl => ?_⟩
  ·rw [valS, valS]
   cases skipS s with
   | nil => exact .inl ⟨rfl, rfl⟩
   | cons c t =>
    simp only
    by_cases h1 : c = 123
    ·rw [if_pos h1, if_pos h1]; exact i2 _ _ _ _ _ ⟨by simp only [h.deep], h.alone, h.great, h.twice⟩
    rw [if_neg h1, if_neg h1]
    by_cases h2 : c = 91
    ·rw [if_pos h2, if_pos h2]; exact i2 _ _ _ _ _ ⟨by simp only [h.deep], h.alone, h.great, h.twice⟩
    rw [if_neg h2, if_neg h2]
    by_cases h3 : c = 34
    ·rw [if_pos h3, if_pos h3]
     rcases qtS_z z1 z2 t with ⟨e1, e2⟩ | ⟨u1, u2, r, a, e1, e2, e3⟩
     ·rw [e1, e2]; exact .inl ⟨rfl, rfl⟩
     rw [e1, e2]
     refine .inr ⟨_, _, _, _, _, rfl, rfl, ⟨h.deep, by simp only [h.alone], h.great, fun ha => ?_⟩, fun ha => ?_, fun ha => ?_⟩
     ·simp only [Bool.or_eq_false_iff] at ha; exact h.twice ha.1
     ·simp only [Bool.or_eq_false_iff] at ha; rw [e3 ha.2]
     simp only [ha, Bool.true_or]
    rw [if_neg h3, if_neg h3]
    by_cases h4 : c = 45 ∨ digB c = true
    ·rw [if_pos h4, if_pos h4]
     unfold numS
     split
     ·exact .inl ⟨rfl, rfl⟩
     exact .inr ⟨_, _, _, _, _, rfl, rfl, ⟨h.deep, h.alone, by simp only [h.great], h.twice⟩, fun _ => rfl, fun h => h⟩
    rw [if_neg h4, if_neg h4]
    split
    ·exact .inr ⟨_, _, _, _, _, rfl, rfl, h, fun _ => rfl, fun h => h⟩
    split
    ·exact .inr ⟨_, _, _, _, _, rfl, rfl, h, fun _ => rfl, fun h => h⟩
    split
    ·exact .inr ⟨_, _, _, _, _, rfl, rfl, h, fun _ => rfl, fun h => h⟩
    exact .inl ⟨rfl, rfl⟩
  ·rw [inS, inS]
   cases skipS s with
   | nil => exact .inl ⟨rfl, rfl⟩
   | cons c t =>
    simp only
    by_cases h1 : c = endB obj
    ·rw [if_pos h1, if_pos h1]; exact .inr ⟨_, _, _, _, _, rfl, rfl, h, fun _ => rfl, fun h => h⟩
    rw [if_neg h1, if_neg h1]; exact i3 _ _ _ _ _ _ _ _ _ h (fun _ => ⟨rfl, rfl⟩)
  rw [itemS_succ, itemS_succ]
  rcases mem_z z1 z2 obj n1 n2 s f g h (fun ha => (hl ha).2) with ⟨e1, e2⟩ | ⟨m1, m2, r, f1, f2, e1, e2, e3, e4, e5⟩
  ·rw [e1, e2]; exact .inl ⟨rfl, rfl⟩
  rw [e1, e2]
  simp only
  rcases i1 d r f1 f2 e3 with ⟨k1, k2⟩ | ⟨v1, v2, r2, g1, g2, k1, k2, k3, k4, k5⟩
  ·rw [k1, k2]; exact .inl ⟨rfl, rfl⟩
  rw [k1, k2]
  simp only [moreS]
  have hb : g1.alone = false → f1.alone = false := fun ha => by
   cases hf : f1.alone with
   | false => rfl
   | true => rw [k5 hf] at ha; cases ha
  have hb0 : f1.alone = false → f.alone = false := fun ha => by
   cases hf : f.alone with
   | false => rfl
   | true => rw [e5 hf] at ha; cases ha
  cases skipS r2 with
  | nil => exact .inl ⟨rfl, rfl⟩
  | cons c t =>
   simp only
   by_cases h1 : c = endB obj
   ·rw [if_pos h1, if_pos h1]
    refine .inr ⟨_, _, _, _, _, rfl, rfl, k3, fun ha => ?_, fun ha => k5 (e5 ha)⟩
    rw [(hl (hb0 (hb ha))).1, e4 (hb ha), k4 ha]
   rw [if_neg h1, if_neg h1]
   by_cases h2 : c = 44
   ·rw [if_pos h2, if_pos h2]
    refine (i3 _ _ _ _ _ _ _ _ _ k3 (fun ha => ?_)).mono (fun ha => k5 (e5 ha))
    rw [(hl (hb0 (hb ha))).1, e4 (hb ha), k4 ha]
    exact ⟨rfl, rfl⟩
   rw [if_neg h2, if_neg h2]; exact .inl ⟨rfl, rfl⟩
theorem parseJ_z (z1 z2 b : List UInt8) : parseJ z1 b = parseJ z2 b := by
 unfold parseJ
 split
 ·rfl
 split
 ·rfl
 rcases (val_z z1 z2 (3 * b.length + 3)).1 0 b Fl.none Fl.none (.refl _) with ⟨e1, e2⟩ | ⟨v1, v2, r, f1, f2, e1, e2, e3, e4, _⟩
 ·rw [e1, e2]
 rw [e1, e2]
 simp only
 rw [← e3.deep, ← e3.alone, ← e3.great]
 split
 ·rfl
 split
 ·rfl
 split
 ·rfl
 rename_i ha
 have ha : f1.alone = false := by simpa using ha
 rw [e3.twice ha, e4 ha]
end Go.Proofs.YtfclfaidmipjpaaGreatDoor
