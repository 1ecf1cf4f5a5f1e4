/- Texts of this claim, joined: Jp7. -/
import Derived.Test.YtfclfaidmipjpaaGreatDoorCo22
namespace Go.Proofs.YtfclfaidmipjpaaGreatDoor
set_option maxRecDepth 100000
set_option maxHeartbeats 20000000
open Go.Lib (hid)
open Go.RowKit
def opB (op : List Bool) : List UInt8 := (op.reverse).map (fun o => if o then 123 else 91)
theorem opB_len (op : List Bool) : (opB op).length = op.length := by simp [opB]
theorem opB_cons (o : Bool) (op : List Bool) : opB (o :: op) = opB op ++ [if o then 123 else 91] := by simp [opB]
theorem WaitV.front {w : World} {B g off n cap : Nat} {l : List UInt8} (h : WaitV w B (.slice (some ⟨g, off, none⟩) n cap) l) (k : Nat) (hk : k ≤ l.length) : WaitV w B (.slice (some ⟨g, off, none⟩) k cap) (l.take k) := by
 rcases h with ⟨h, _⟩ | ⟨g, off, cap, h1, h2, h3, h4, h5, h6, h7, h8⟩
 ·cases h
 cases h1
 have hl : (l.take k).length = k := by rw [List.length_take]; omega
 refine .inr ⟨g, off, cap, by rw [hl], h2, h3, by omega, h5, fun j hj => ?_, h7, h8⟩
 rw [hl] at hj
 rw [h6 j (by omega)]
 congr 3
 simp only [List.getD_eq_getElem?_getD, List.getElem?_take, if_pos hj]
structure GramS (w : World) (b : List UInt8) (lab : Lab) (op : List Bool) (d : Nat) (s : List UInt8) (v : Value) (w' : World) : Prop where
 ans : gramG .value [] 0 b = gramG lab op d s
 wv : WaitV w' w.heap.size v (opB op)
 be : Below w.heap.size w w'
 le : op.length + s.length ≤ b.length
 dl : d ≤ b.length
 ne : lab = .close → op ≠ [] ∧ s ≠ []
def GramJ (w : World) (b : List UInt8) (lab : Lab) (n : Nat) (a' : Act) (w' : World) : Prop :=
 ∃ (f : Nat → Value) (op : List Bool) (d : Nat) (s : List UInt8) (v : Value), a' = { tmps := #[.string ⟨s.toArray⟩, f 1, f 2, f 3, v, .int .i64 (d : Int), f 6, f 7, f 8, f 9, f 10, f 11, f 12, f 13, f 14, f 15, f 16, f 17, f 18, f 19, f 20, f 21, f 22, f 23, f 24, f 25, f 26, f 27, f 28, f 29, f 30, f 31, f 32, f 33, f 34, f 35, f 36, f 37, f 38, f 39, f 40, f 41, f 42, f 43, f 44, f 45, f 46, f 47, f 48, f 49, f 50, f 51, f 52, f 53, f 54, f 55, f 56, f 57, f 58, f 59, f 60, f 61, f 62, f 63, f 64, f 65, f 66, f 67, f 68, f 69, f 70, f 71, f 72, f 73, f 74, f 75, f 76, f 77, f 78, f 79, f 80, f 81, f 82, f 83, f 84, f 85, f 86, f 87, f 88, f 89, f 90, f 91, f 92, f 93, f 94, f 95, f 96, f 97, f 98, f 99, f 100, f 101, f 102, f 103, f 104, f 105, f 106, f 107, f 108, f 109], defers := [] } ∧ n = gMu lab s ∧ GramS w b lab op d s v w'
theorem gN_qd (f : Lab → List Bool → Nat → List UInt8 → Nat × Bool) (op : List Bool) (d : Nat) (s : List UInt8) : gN f op d s = match qdS (skipS s) with
  | none => (0, false)
  | some r => match skipS r with
   | [] => (0, false)
   | c2 :: r2 => if c2 = 58 then f .value op d r2 else (0, false) := by
 unfold gN qdS
 cases skipS s with
 | nil => rfl
 | cons c t =>
  simp only
  by_cases h : c = 34
  ·rw [if_pos h, if_pos h]; cases qlS t <;> rfl
  rw [if_neg h, if_neg h]
theorem gB_cons {f : Lab → List Bool → Nat → List UInt8 → Nat × Bool} {ob : Bool} {op : List Bool} {d : Nat} {s u : List UInt8} (h : skipS s = u) (hu : 0 < u.length) : gB f (ob :: op) d s = if u.getD 0 0 = endB ob then f .close (ob :: op) d u else if u.getD 0 0 = 44 then f (nv ob) (ob :: op) d u.tail else (0, false) := by
 unfold gB
 rw [h]
 cases u with
 | nil => simp at hu
 | cons c t => rfl
def gO (f : Lab → List Bool → Nat → List UInt8 → Nat × Bool) (ob : Bool) (op : List Bool) (d : Nat) (t : List UInt8) : Nat × Bool :=
 if t.length = 0 then f (nv ob) (ob :: op) (max d (op.length + 1)) t else if t.getD 0 0 = endB ob then f .close (ob :: op) (max d (op.length + 1)) t else f (nv ob) (ob :: op) (max d (op.length + 1)) t
theorem gV_cons {f : Lab → List Bool → Nat → List UInt8 → Nat × Bool} {op : List Bool} {d : Nat} {s u : List UInt8} (h : skipS s = u) (hu : 0 < u.length) : gV f op d s = if u.getD 0 0 = 91 ∨ u.getD 0 0 = 123 then gO f (u.getD 0 0 == 123) op d (skipS u.tail) else match scS u with
  | none => (0, false)
  | some r => f .behind op d r := by
 unfold gV
 rw [h]
 cases u with
 | nil => simp at hu
 | cons c t =>
  show (if c = 91 ∨ c = 123 then _ else _) = if c = 91 ∨ c = 123 then gO f (c == 123) op d (skipS t) else _
  by_cases hc : c = 91 ∨ c = 123
  ·rw [if_pos hc, if_pos hc]
   unfold gO
   cases skipS t with
   | nil => rfl
   | cons c2 t2 => rfl
  rw [if_neg hc, if_neg hc]
  cases scS (c :: t) <;> rfl
theorem gV_nil {f : Lab → List Bool → Nat → List UInt8 → Nat × Bool} {op : List Bool} {d : Nat} {s : List UInt8} (h : skipS s = []) : gV f op d s = (0, false) := by
 unfold gV
 rw [h]
theorem gB_nil {f : Lab → List Bool → Nat → List UInt8 → Nat × Bool} {ob : Bool} {op : List Bool} {d : Nat} {s : List UInt8} (h : skipS s = []) : gB f (ob :: op) d s = (0, false) := by
 unfold gB
 rw [h]
theorem cons_getD {u : List UInt8} (h : 0 < u.length) : u = u.getD 0 0 :: u.tail := by
 cases u with
 | nil => simp at h
 | cons c t => rfl
def labN : Lab → Nat
 | .value => 0
 | .close => 1
 | .name => 2
 | .behind => 3
theorem GramJ.mk {w w' : World} {b : List UInt8} {lab : Lab} {op : List Bool} {d : Nat} {s : List UInt8} {v : Value} {x1 x2 x3 x6 x7 x8 x9 x10 x11 x12 x13 x14 x15 x16 x17 x18 x19 x20 x21 x22 x23 x24 x25 x26 x27 x28 x29 x30 x31 x32 x33 x34 x35 x36 x37 x38 x39 x40 x41 x42 x43 x44 x45 x46 x47 x48 x49 x50 x51 x52 x53 x54 x55 x56 x57 x58 x59 x60 x61 x62 x63 x64 x65 x66 x67 x68 x69 x70 x71 x72 x73 x74 x75 x76 x77 x78 x79 x80 x81 x82 x83 x84 x85 x86 x87 x88 x89 x90 x91 x92 x93 x94 x95 x96 x97 x98 x99 x100 x101 x102 x103 x104 x105 x106 x107 x108 x109 : Value} (h : GramS w b lab op d s v w') : GramJ w b lab (gMu lab s) { tmps := #[.string ⟨s.toArray⟩, x1, x2, x3, v, .int .i64 (d : Int), x6, x7, x8, x9, x10, x11, x12, x13, x14, x15, x16, x17, x18, x19, x20, x21, x22, x23, x24, x25, x26, x27, x28, x29, x30, x31, x32, x33, x34, x35, x36, x37, x38, x39, x40, x41, x42, x43, x44, x45, x46, x47, x48, x49, x50, x51, x52, x53, x54, x55, x56, x57, x58, x59, x60, x61, x62, x63, x64, x65, x66, x67, x68, x69, x70, x71, x72, x73, x74, x75, x76, x77, x78, x79, x80, x81, x82, x83, x84, x85, x86, x87, x88, x89, x90, x91, x92, x93, x94, x95, x96, x97, x98, x99, x100, x101, x102, x103, x104, x105, x106, x107, x108, x109], defers := [] } w' :=
 ⟨fun i => ([undef, x1, x2, x3, undef, undef, x6, x7, x8, x9, x10, x11, x12, x13, x14, x15, x16, x17, x18, x19, x20, x21, x22, x23, x24, x25, x26, x27, x28, x29, x30, x31, x32, x33, x34, x35, x36, x37, x38, x39, x40, x41, x42, x43, x44, x45, x46, x47, x48, x49, x50, x51, x52, x53, x54, x55, x56, x57, x58, x59, x60, x61, x62, x63, x64, x65, x66, x67, x68, x69, x70, x71, x72, x73, x74, x75, x76, x77, x78, x79, x80, x81, x82, x83, x84, x85, x86, x87, x88, x89, x90, x91, x92, x93, x94, x95, x96, x97, x98, x99, x100, x101, x102, x103, x104, x105, x106, x107, x108, x109] : List Value).getD i undef, op, d, s, v, rfl, rfl, h⟩
def GraP (w : World) (b : List UInt8) (e : Ending) (w' : World) : Prop :=
 e = .returned (.tuple #[.int .i64 ((gramG .value [] 0 b).1 : Int), .bool (gramG .value [] 0 b).2]) ∧ Below w.heap.size w w'
theorem grammarP_calls (w : World) (b : List UInt8) (hb : b.length ≤ 100000000) : Calls Tryz.prog 45 #[.string ⟨b.toArray⟩] w (GraP w b) := by
 go_enter Tryz.func45, Tryz.ntmps45
 go_wp2_with fail
 refine wp_scope_many (fun l n a' w' => ∃ lab, labN lab = l ∧ GramJ w b lab n a' w') ?_ ?_
 ·
  have HS : Hid (GramS w b .value [] 0 b (.slice none 0 0) w) := hid ⟨rfl, WaitV.nil _ _, Below.refl _ _, by simp, Nat.zero_le _, fun e => by cases e⟩
  have HMU : Hid (gMu .value b ≤ gMu .value b) := hid (Nat.le_refl _)
  go_wp2_with fail
  refine wp_label ?_
  obtain ⟨d, hd⟩ : ∃ d : Nat, d = 0 := ⟨_, rfl⟩
  obtain ⟨op, hop⟩ : ∃ q : List Bool, q = [] := ⟨_, rfl⟩
  obtain ⟨v, hv⟩ : ∃ q : Value, q = .slice none 0 0 := ⟨_, rfl⟩
  have hz : Value.int IntKind.i64 0 = Value.int IntKind.i64 (d : Int) := by rw [hd]; rfl
  have HS : Hid (GramS w b .value op d b v w) := hid ⟨by rw [hop, hd], by rw [hop, hv]; exact WaitV.nil _ _, Below.refl _ _, by rw [hop]; simp, by omega, fun e => by cases e⟩
  have HMU : Hid (gMu .value b ≤ gMu .value b) := hid (Nat.le_refl _)
  rw [hz, ← hv]
  clear hz hd hop hv
  go_wp2_with fail
  refine (skip_calls w b).mono ?_
  rintro e w2 ⟨rfl, rfl⟩
  have hans := HS.out.ans
  rw [gramV op d b] at hans
  have HANS := hid hans
  have hle := HS.out.le
  have hdl := HS.out.dl
  clear hans
  obtain ⟨u, hsk⟩ : ∃ u, skipS b = u := ⟨_, rfl⟩
  have HSL : Hid (u.length ≤ b.length) := hid (by rw [← hsk]; exact skip_len b)
  rw [hsk]
  have HSK := hid hsk
  clear hsk
  by_cases hu0 : u.length = 0
  ·
   obtain rfl : u = [] := List.length_eq_zero_iff.1 hu0
   have HZ : Hid (gramG .value [] 0 b = (0, false)) := hid (by rw [HANS.out, gV_nil HSK.out])
   clear hu0
   go_wp2_with fail
   refine bodyPost_ret (v := .tuple #[.int .i64 0, .bool false]) (by simp [results, Tryz.results45, go_sem]) rfl ?_
   exact ⟨by rw [HZ.out]; rfl, HS.out.be⟩
  have hul : 0 < u.length := by omega
  have hul1 : (1 : Int) ≤ (u.length : Int) := by omega
  have hul0 : (0 : Int) < (u.length : Int) := by omega
  have hij := byte_at u 0 hul
  have hextu : (⟨u.toArray⟩ : ByteArray).extract 1 u.length = ⟨u.tail.toArray⟩ := by rw [Lib.extract_eq]; rw [List.take_of_length_le (by simp), List.drop_one]
  have hue : u.isEmpty = false := by cases u with | nil => simp at hul | cons => rfl
  have hq3 := HANS.out
  rw [gV_cons HSK.out hul] at hq3
  have HQ3 := hid hq3
  have HUL : Hid (0 < u.length) := hid hul
  have hulb : u.length ≤ 100000000 := by have := HSL.out; omega
  clear hq3 hu0 HANS
  generalize u.getD 0 0 = c at *
  by_cases e91 : c = 91
  ·
   subst e91
   have hq3 := HQ3.out
   rw [if_pos (by decide), show (((91 : UInt8) == 123) = false) from rfl] at hq3
   have HQ4 := hid hq3
   clear hq3 HQ3
   have hb4 : Below w.heap.size w (w.alloc (Obj.cells #[Value.int IntKind.u8 91] 5)) := (Below.refl _ _).alloc (Nat.le_refl _) _
   have HX := hid (byts_lit w [91] (by decide) : BytS (w.alloc (Obj.cells #[Value.int IntKind.u8 91] 5)) (.slice (some ⟨w.heap.size, 0, none⟩) 1 1) [91])
   have HW4 := hid (HS.out.wv.below hb4)
   have HB4 := hid (HS.out.be.trans (hb4.mono HS.out.be.size))
   have hB4 : w.heap.size ≤ (w.alloc (Obj.cells #[Value.int IntKind.u8 91] 5)).heap.size := HB4.out.size
   have hopl : (opB op).length + ([91] : List UInt8).length ≤ 100000000 := by rw [opB_len]; simp only [List.length_cons, List.length_nil]; have := HSL.out; omega
   clear hb4
   go_wp2_with (at_builtin; go_must (refine wpList_append_wait rfl _ _ rfl w.heap.size _ _ (opB op) [91] rfl HW4.out rfl HX.out hopl hB4 ?_))
   intro v3 w3 hv3 hg3 _
   have HW3 : Hid (WaitV w3 w.heap.size v3 (opB (false :: op))) := hid (by rw [opB_cons]; exact hv3)
   have HB3 := hid (HB4.out.grown hg3 hB4 (fun k hk => (HW4.out.lt hk).1))
   clear hv3 hg3 HX HW4 HB4 hB4
   obtain ⟨pp, cap, hv, _⟩ := HW3.out.byts.open
   rw [opB_len, List.length_cons] at hv
   subst hv
   go_wp2_with fail
   refine (skip_calls w3 u.tail).mono ?_
   rintro e w4 ⟨rfl, rfl⟩
   have HTL : Hid ((skipS u.tail).length + 1 ≤ u.length) := hid (by have h9 := skip_len u.tail; rw [List.length_tail] at h9; have := HUL.out; omega)
   generalize skipS u.tail = t2 at *
   obtain ⟨d2, hd2⟩ : ∃ q, max d (op.length + 1) = q := ⟨_, rfl⟩
   have hmx : max (d : Int) ((op.length : Int) + 1) = (d2 : Int) := by omega
   rw [hmx]
   clear hmx
   have hq5 := HQ4.out
   unfold gO at hq5
   rw [hd2] at hq5
   have HQ5 := hid hq5
   have HDL : Hid (d2 ≤ b.length) := hid (by rw [← hd2]; have := HSL.out; have := HUL.out; omega)
   clear hq5 HQ4 hij hextu hue hul hul1 hul0
   by_cases ht0 : t2.length = 0
   ·
    have hans := HQ5.out
    rw [if_pos ht0] at hans
    have HA := hid hans
    have HG : Hid (GramS w b .value (false :: op) d2 t2 (.slice pp (op.length + 1) cap) w3) := hid ⟨HA.out, HW3.out, HB3.out, by have := HSL.out; have := HTL.out; simp only [List.length_cons]; omega, HDL.out, fun e => by cases e⟩
    have HLT : Hid (gMu .value t2 < gMu .value b) := hid (by have := HMU.out; have := HSL.out; have := HTL.out; simp only [gMu] at *; omega)
    have hte : t2.isEmpty = true := by cases t2 with | nil => rfl | cons => simp at ht0
    clear hans
    go_wp2_with fail
    refine wp_goto ?_
    exact ⟨_, .value, rfl, GramJ.mk HG.out⟩
   have htl : 0 < t2.length := by omega
   have htl0 : (0 : Int) < (t2.length : Int) := by omega
   have htj := byte_at t2 0 htl
   have hte : t2.isEmpty = false := by cases t2 with | nil => simp at htl | cons => rfl
   have hq6 := HQ5.out
   rw [if_neg ht0] at hq6
   have HQ6 := hid hq6
   have HTP := hid htl
   clear hq6 HQ5 ht0
   generalize t2.getD 0 0 = c2 at *
   by_cases hE : c2 = 93
   ·
    have hans := HQ6.out
    rw [if_pos (show c2 = endB false from hE)] at hans
    have HA := hid hans
    have HG : Hid (GramS w b .close (false :: op) d2 t2 (.slice pp (op.length + 1) cap) w3) := hid ⟨HA.out, HW3.out, HB3.out, by have := HSL.out; have := HTL.out; simp only [List.length_cons]; omega, HDL.out, fun _ => ⟨by simp, fun e => by have := HTP.out; rw [e] at this; simp at this⟩⟩
    have HLT : Hid (gMu .close t2 < gMu .value b) := hid (by have := HMU.out; have := HSL.out; have := HTL.out; simp only [gMu] at *; omega)
    have hEb : ((c2.toNat : Int) == 93) = true := by rw [hE]; rfl
    clear hans hE HQ6
    go_wp2_with fail
    refine wp_goto ?_
    exact ⟨_, .close, rfl, GramJ.mk HG.out⟩
   have hans := HQ6.out
   rw [if_neg (show ¬ c2 = endB false from hE)] at hans
   have HA := hid hans
   have HG : Hid (GramS w b .value (false :: op) d2 t2 (.slice pp (op.length + 1) cap) w3) := hid ⟨HA.out, HW3.out, HB3.out, by have := HSL.out; have := HTL.out; simp only [List.length_cons]; omega, HDL.out, fun e => by cases e⟩
   have HLT : Hid (gMu .value t2 < gMu .value b) := hid (by have := HMU.out; have := HSL.out; have := HTL.out; simp only [gMu] at *; omega)
   have hEb : ((c2.toNat : Int) == 93) = false := by
    rw [beq_eq_false_iff_ne]
    intro e9
    have e8 : c2.toNat = 93 := by omega
    exact hE (UInt8.toNat_inj.1 (by rw [e8]; rfl))
   clear hans hE HQ6
   go_wp2_with fail
   refine wp_goto ?_
   exact ⟨_, .value, rfl, GramJ.mk HG.out⟩
  by_cases e123 : c = 123
  ·
   subst e123
   have hq3 := HQ3.out
   rw [if_pos (by decide), show (((123 : UInt8) == 123) = true) from rfl] at hq3
   have HQ4 := hid hq3
   clear hq3 HQ3
   have hb4 : Below w.heap.size w (w.alloc (Obj.cells #[Value.int IntKind.u8 123] 5)) := (Below.refl _ _).alloc (Nat.le_refl _) _
   have HX := hid (byts_lit w [123] (by decide) : BytS (w.alloc (Obj.cells #[Value.int IntKind.u8 123] 5)) (.slice (some ⟨w.heap.size, 0, none⟩) 1 1) [123])
   have HW4 := hid (HS.out.wv.below hb4)
   have HB4 := hid (HS.out.be.trans (hb4.mono HS.out.be.size))
   have hB4 : w.heap.size ≤ (w.alloc (Obj.cells #[Value.int IntKind.u8 123] 5)).heap.size := HB4.out.size
   have hopl : (opB op).length + ([123] : List UInt8).length ≤ 100000000 := by rw [opB_len]; simp only [List.length_cons, List.length_nil]; have := HSL.out; omega
   clear hb4
   go_wp2_with (at_builtin; go_must (refine wpList_append_wait rfl _ _ rfl w.heap.size _ _ (opB op) [123] rfl HW4.out rfl HX.out hopl hB4 ?_))
   intro v3 w3 hv3 hg3 _
   have HW3 : Hid (WaitV w3 w.heap.size v3 (opB (true :: op))) := hid (by rw [opB_cons]; exact hv3)
   have HB3 := hid (HB4.out.grown hg3 hB4 (fun k hk => (HW4.out.lt hk).1))
   clear hv3 hg3 HX HW4 HB4 hB4
   obtain ⟨pp, cap, hv, _⟩ := HW3.out.byts.open
   rw [opB_len, List.length_cons] at hv
   subst hv
   go_wp2_with fail
   refine (skip_calls w3 u.tail).mono ?_
   rintro e w4 ⟨rfl, rfl⟩
   have HTL : Hid ((skipS u.tail).length + 1 ≤ u.length) := hid (by have h9 := skip_len u.tail; rw [List.length_tail] at h9; have := HUL.out; omega)
   generalize skipS u.tail = t2 at *
   obtain ⟨d2, hd2⟩ : ∃ q, max d (op.length + 1) = q := ⟨_, rfl⟩
   have hmx : max (d : Int) ((op.length : Int) + 1) = (d2 : Int) := by omega
   rw [hmx]
   clear hmx
   have hq5 := HQ4.out
   unfold gO at hq5
   rw [hd2] at hq5
   have HQ5 := hid hq5
   have HDL : Hid (d2 ≤ b.length) := hid (by rw [← hd2]; have := HSL.out; have := HUL.out; omega)
   clear hq5 HQ4 hij hextu hue hul hul1 hul0
   by_cases ht0 : t2.length = 0
   ·
    have hans := HQ5.out
    rw [if_pos ht0] at hans
    have HA := hid hans
    have HG : Hid (GramS w b .name (true :: op) d2 t2 (.slice pp (op.length + 1) cap) w3) := hid ⟨HA.out, HW3.out, HB3.out, by have := HSL.out; have := HTL.out; simp only [List.length_cons]; omega, HDL.out, fun e => by cases e⟩
    have HLT : Hid (gMu .name t2 < gMu .value b) := hid (by have := HMU.out; have := HSL.out; have := HTL.out; simp only [gMu] at *; omega)
    have hte : t2.isEmpty = true := by cases t2 with | nil => rfl | cons => simp at ht0
    clear hans
    go_wp2_with fail
    refine wp_goto ?_
    exact ⟨_, .name, rfl, GramJ.mk HG.out⟩
   have htl : 0 < t2.length := by omega
   have htl0 : (0 : Int) < (t2.length : Int) := by omega
   have htj := byte_at t2 0 htl
   have hte : t2.isEmpty = false := by cases t2 with | nil => simp at htl | cons => rfl
   have hq6 := HQ5.out
   rw [if_neg ht0] at hq6
   have HQ6 := hid hq6
   have HTP := hid htl
   clear hq6 HQ5 ht0
   generalize t2.getD 0 0 = c2 at *
   by_cases hE : c2 = 125
   ·
    have hans := HQ6.out
    rw [if_pos (show c2 = endB true from hE)] at hans
    have HA := hid hans
    have HG : Hid (GramS w b .close (true :: op) d2 t2 (.slice pp (op.length + 1) cap) w3) := hid ⟨HA.out, HW3.out, HB3.out, by have := HSL.out; have := HTL.out; simp only [List.length_cons]; omega, HDL.out, fun _ => ⟨by simp, fun e => by have := HTP.out; rw [e] at this; simp at this⟩⟩
    have HLT : Hid (gMu .close t2 < gMu .value b) := hid (by have := HMU.out; have := HSL.out; have := HTL.out; simp only [gMu] at *; omega)
    have hEb : ((c2.toNat : Int) == 125) = true := by rw [hE]; rfl
    clear hans hE HQ6
    go_wp2_with fail
    refine wp_goto ?_
    exact ⟨_, .close, rfl, GramJ.mk HG.out⟩
   have hans := HQ6.out
   rw [if_neg (show ¬ c2 = endB true from hE)] at hans
   have HA := hid hans
   have HG : Hid (GramS w b .name (true :: op) d2 t2 (.slice pp (op.length + 1) cap) w3) := hid ⟨HA.out, HW3.out, HB3.out, by have := HSL.out; have := HTL.out; simp only [List.length_cons]; omega, HDL.out, fun e => by cases e⟩
   have HLT : Hid (gMu .name t2 < gMu .value b) := hid (by have := HMU.out; have := HSL.out; have := HTL.out; simp only [gMu] at *; omega)
   have hEb : ((c2.toNat : Int) == 125) = false := by
    rw [beq_eq_false_iff_ne]
    intro e9
    have e8 : c2.toNat = 125 := by omega
    exact hE (UInt8.toNat_inj.1 (by rw [e8]; rfl))
   clear hans hE HQ6
   go_wp2_with fail
   refine wp_goto ?_
   exact ⟨_, .name, rfl, GramJ.mk HG.out⟩
  have h91 : ((c.toNat : Int) == 91) = false := by
   rw [beq_eq_false_iff_ne]
   intro e9
   have e8 : c.toNat = 91 := by omega
   exact e91 (UInt8.toNat_inj.1 (by rw [e8]; rfl))
  have h123 : ((c.toNat : Int) == 123) = false := by
   rw [beq_eq_false_iff_ne]
   intro e9
   have e8 : c.toNat = 123 := by omega
   exact e123 (UInt8.toNat_inj.1 (by rw [e8]; rfl))
  have hq3 := HQ3.out
  rw [if_neg (fun h => h.elim e91 e123)] at hq3
  have HQ4 := hid hq3
  clear hq3 HQ3 e91 e123
  go_wp2_with fail
  refine (scalarP_calls w u (by omega) hul).mono ?_
  rintro e w3 ⟨hb3, n, rfl, hn⟩
  have HB3 := hid (HS.out.be.trans (hb3.mono HS.out.be.size))
  have HWV := hid (HS.out.wv.below hb3)
  clear hb3
  rcases hn with ⟨hn0, hq⟩ | ⟨hn0, hnl, hq⟩
  ·
   subst hn0
   have HZ : Hid (gramG .value [] 0 b = (0, false)) := hid (by rw [HQ4.out, hq])
   go_wp2_with fail
   refine bodyPost_ret (v := .tuple #[.int .i64 0, .bool false]) (by simp [results, Tryz.results45, go_sem]) rfl ?_
   exact ⟨by rw [HZ.out]; rfl, HB3.out⟩
  have hnb : ((n : Int) == 0) = false := by rw [beq_eq_false_iff_ne]; omega
  have hnl2 : (n : Int) ≤ (u.length : Int) := by omega
  have hext := ext_drop u n
  have hq2 := HQ4.out
  rw [hq] at hq2
  simp only at hq2
  have HA := hid hq2
  clear hq hq2 HQ4
  obtain ⟨s3, hs3⟩ : ∃ q, u.drop n = q := ⟨_, rfl⟩
  have HS3L : Hid (s3.length + n = u.length) := hid (by rw [← hs3, List.length_drop]; omega)
  rw [hs3] at HA hext
  clear hs3
  have HG : Hid (GramS w b .behind op d s3 v w3) := hid ⟨HA.out, HWV.out, HB3.out, by have := HSL.out; have := HS3L.out; omega, hdl, fun e => by cases e⟩
  have HMU2 : Hid (gMu .behind s3 ≤ gMu .value b) := hid (by have := HMU.out; have := HSL.out; have := HS3L.out; simp only [gMu] at *; omega)
  go_wp2_with fail
  refine wp_label ?_
  clear hul hul1 hul0 hij hextu hue HUL hulb hle hdl h91 h123 hn0 hnl hnb hnl2 hext HA HS3L HSL HSK HWV HB3
  go_wp2_with fail
  refine (skip_calls w3 s3).mono ?_
  rintro e w2 ⟨rfl, rfl⟩
  have hans := HG.out.ans
  rw [gramB'] at hans
  have HANS := hid hans
  have hle := HG.out.le
  have hdl := HG.out.dl
  clear hans
  obtain ⟨u, hsk⟩ : ∃ u, skipS s3 = u := ⟨_, rfl⟩
  have HSL : Hid (u.length ≤ s3.length) := hid (by rw [← hsk]; exact skip_len s3)
  rw [hsk]
  have HSK := hid hsk
  clear hsk
  cases op with
  | nil =>
   obtain ⟨pp, cap, hv, _⟩ := HG.out.wv.byts.open
   have hv2 : v = .slice pp 0 cap := hv
   subst hv2
   clear hv
   have HZ : Hid (gramG .value [] 0 b = (d, u.isEmpty)) := hid (by rw [HANS.out]; unfold gB; simp only; rw [HSK.out])
   go_wp2_with fail
   refine bodyPost_ret (v := .tuple #[.int .i64 (d : Int), .bool u.isEmpty]) (by simp [results, Tryz.results45, go_sem]) rfl ?_
   exact ⟨by rw [HZ.out], HG.out.be⟩
  | cons ob op2 =>
   rcases HG.out.wv with ⟨_, h0⟩ | ⟨g, off, cap, hv, hg1, hg2, hcl, hcm, hcc, hcs, hcf⟩
   ·exact absurd h0 (by rw [opB_cons]; simp)
   rw [opB_len, List.length_cons] at hv hcl
   subst hv
   have hcap : (op2.length : Int) + 1 ≤ (cap : Int) := by omega
   have hopl : op2.length + 1 + s3.length ≤ b.length := by simpa using hle
   clear hle
   have hlast := hcc op2.length (by rw [opB_len]; simp)
   rw [show (opB (ob :: op2)).getD op2.length 0 = (if ob then 123 else 91) from by rw [opB_cons, List.getD_eq_getElem?_getD, List.getElem?_append_right (by rw [opB_len]; exact Nat.le_refl _), opB_len, Nat.sub_self]; rfl] at hlast
   clear hcc hcs hcf hg1 hg2 hcm hcl
   by_cases hu0 : u.length = 0
   ·
    obtain rfl : u = [] := List.length_eq_zero_iff.1 hu0
    have HZ : Hid (gramG .value [] 0 b = (0, false)) := hid (by rw [HANS.out, gB_nil HSK.out])
    clear hu0
    go_wp2_with fail
    refine bodyPost_ret (v := .tuple #[.int .i64 0, .bool false]) (by simp [results, Tryz.results45, go_sem]) rfl ?_
    exact ⟨by rw [HZ.out]; rfl, HG.out.be⟩
   have hul : 0 < u.length := by omega
   have hul1 : (1 : Int) ≤ (u.length : Int) := by omega
   have hul0 : (0 : Int) < (u.length : Int) := by omega
   have hij := byte_at u 0 hul
   have hextu : (⟨u.toArray⟩ : ByteArray).extract 1 u.length = ⟨u.tail.toArray⟩ := by rw [Lib.extract_eq]; rw [List.take_of_length_le (by simp), List.drop_one]
   have hue : u.isEmpty = false := by cases u with | nil => simp at hul | cons => rfl
   have hq3 := HANS.out
   rw [gB_cons HSK.out hul] at hq3
   have HQ3 := hid hq3
   clear hq3 hu0 HANS
   generalize u.getD 0 0 = c at *
   have HUL : Hid (0 < u.length) := hid hul
   cases ob with
   | true =>
    have hl9 : w3.cell? ⟨g, off + op2.length, none⟩ = some (.int .u8 123) := hlast
    clear hlast
    by_cases hE : c = 125
    ·
     have hEb : ((c.toNat : Int) == 125) = true := by rw [hE]; rfl
     have hans := HQ3.out
     rw [if_pos (show c = endB true from hE)] at hans
     have HA := hid hans
     clear hans hE HQ3
     go_wp2_with fail
     refine wp_region_quiet_fast (by kernel_rfl) (by kernel_rfl) ?_
     repeat (go_big_quiet_step (fail))
     refine wpQuiet_nil ?_
     intro _ hw'
     obtain ⟨nq, hw''⟩ := hw'
     subst hw''
     have HG : Hid (GramS w b .close (true :: op2) d u (.slice (some ⟨g, off, none⟩) (op2.length + 1) cap) (w3.drewN nq)) := hid ⟨HA.out, HG.out.wv.below (drewN_b _ nq), HG.out.be.trans ((drewN_b _ nq).mono HG.out.be.size), by have := HSL.out; simp only [List.length_cons]; omega, hdl, fun _ => ⟨by simp, fun e => by have := HUL.out; rw [e] at this; simp at this⟩⟩
     have hlt : gMu .close u < gMu .value b := by have := HMU2.out; have := HSL.out; simp only [gMu] at *; omega
     have HLT := hid hlt
     clear hlt
     go_wp2_with fail
     refine wp_goto ?_
     exact ⟨_, .close, rfl, GramJ.mk HG.out⟩
    have hEb : ((c.toNat : Int) == 125) = false := by
     rw [beq_eq_false_iff_ne]
     intro e9
     have e8 : c.toNat = 125 := by omega
     exact hE (UInt8.toNat_inj.1 (by rw [e8]; rfl))
    have hans := HQ3.out
    rw [if_neg (show ¬ c = endB true from hE)] at hans
    have HA := hid hans
    clear hans hE HQ3
    by_cases h44 : c = 44
    ·
     have h44b : ((c.toNat : Int) == 44) = true := by rw [h44]; rfl
     have h44c : ((c.toNat : Int) != 44) = false := by rw [bne, h44b]; rfl
     have hans := HA.out
     rw [if_pos h44] at hans
     have HA2 := hid hans
     clear hans h44 HA
     go_wp2_with fail
     refine wp_region_quiet_fast (by kernel_rfl) (by kernel_rfl) ?_
     repeat (go_big_quiet_step (fail))
     refine wpQuiet_nil ?_
     intro _ hw'
     obtain ⟨nq, hw''⟩ := hw'
     subst hw''
     have hl8 : (w3.drewN nq).cell? ⟨g, off + op2.length, none⟩ = some (.int .u8 123) := hl9
     clear hl9
     obtain ⟨s2, hs2⟩ : ∃ q, u.tail = q := ⟨_, rfl⟩
     have HS2L : Hid (s2.length + 1 ≤ u.length) := hid (by rw [← hs2, List.length_tail]; have := HUL.out; omega)
     rw [hs2] at HA2 hextu
     clear hs2
     have HG : Hid (GramS w b .name (true :: op2) d s2 (.slice (some ⟨g, off, none⟩) (op2.length + 1) cap) (w3.drewN nq)) := hid ⟨HA2.out, HG.out.wv.below (drewN_b _ nq), HG.out.be.trans ((drewN_b _ nq).mono HG.out.be.size), by have := HSL.out; have := HS2L.out; simp only [List.length_cons]; omega, hdl, fun e => by cases e⟩
     have HLT : Hid (gMu .name s2 < gMu .value b) := hid (by have := HMU2.out; have := HSL.out; have := HS2L.out; simp only [gMu] at *; omega)
     generalize w3.drewN nq = wd at *
     have HMU2 := hid (Nat.le_of_lt HLT.out)
     go_wp2_with fail
     refine wp_label ?_
     clear hul1 hul0 hij hue hdl hEb h44b h44c HSL HSK HUL HA2
     go_wp2_with fail
     refine (skip_calls wd s2).mono ?_
     rintro e w2 ⟨rfl, rfl⟩
     have hans := HG.out.ans
     rw [gramN, gN_qd] at hans
     have hle := HG.out.le
     have hdl := HG.out.dl
     have HSL : Hid ((skipS s2).length ≤ s2.length) := hid (skip_len s2)
     have HANS := hid hans
     have hrl : (skipS s2).length ≤ 100000000 := by have := HSL.out; omega
     clear hans
     generalize skipS s2 = r at *
     go_wp2_with fail
     refine (quotedP_calls wd r (by omega)).mono ?_
     rintro e w3 ⟨hb3, n, rfl, hn⟩
     have HN := hid hn
     have HB3 := hid (HG.out.be.trans (hb3.mono HG.out.be.size))
     have HBB := hid hb3
     clear hb3
     rcases hn with ⟨hn0, hq⟩ | ⟨hn0, hnl, hq⟩
     ·
      subst hn0
      have HZ : Hid (gramG .value [] 0 b = (0, false)) := hid (by rw [HANS.out, hq])
      go_wp2_with fail
      refine bodyPost_ret (v := .tuple #[.int .i64 0, .bool false]) (by simp [results, Tryz.results45, go_sem]) rfl ?_
      exact ⟨by rw [HZ.out]; rfl, HB3.out⟩
     have hnb : ((n : Int) == 0) = false := by rw [beq_eq_false_iff_ne]; omega
     have hnl2 : (n : Int) ≤ (r.length : Int) := by omega
     have hext := ext_drop r n
     have hq2 := HANS.out
     rw [hq] at hq2
     simp only at hq2
     have HQ := hid hq2
     have HUL : Hid ((skipS (r.drop n)).length ≤ (r.drop n).length ∧ (r.drop n).length + n = r.length) := hid ⟨skip_len _, by rw [List.length_drop]; omega⟩
     clear hq hq2 HANS HN
     go_wp2_with fail
     refine (skip_calls w3 (r.drop n)).mono ?_
     rintro e w4 ⟨rfl, rfl⟩
     generalize r.drop n = q at *
     generalize skipS q = u at *
     by_cases hu0 : u.length = 0
     ·
      obtain rfl : u = [] := List.length_eq_zero_iff.1 hu0
      have HZ := HQ
      clear hu0
      go_wp2_with fail
      refine bodyPost_ret (v := .tuple #[.int .i64 0, .bool false]) (by simp [results, Tryz.results45, go_sem]) rfl ?_
      exact ⟨by rw [HZ.out]; rfl, HB3.out⟩
     have hul : 0 < u.length := by omega
     have hul1 : (1 : Int) ≤ (u.length : Int) := by omega
     have hul0 : (0 : Int) < (u.length : Int) := by omega
     have huc := cons_getD hul
     have hij := byte_at u 0 hul
     have hextu : (⟨u.toArray⟩ : ByteArray).extract 1 u.length = ⟨u.tail.toArray⟩ := by rw [Lib.extract_eq]; rw [List.take_of_length_le (by simp), List.drop_one]
     have hue : u.isEmpty = false := by cases u with | nil => simp at hul | cons => rfl
     have hq3 := HQ.out
     rw [huc] at hq3
     simp only at hq3
     have HQ3 := hid hq3
     clear hq3 huc HQ hu0
     generalize u.getD 0 0 = c2 at *
     by_cases h58 : c2 = 58
     ·
      have h58b : ((c2.toNat : Int) == 58) = true := by rw [h58]; rfl
      have h58c : ((c2.toNat : Int) != 58) = false := by rw [bne, h58b]; rfl
      have hans := HQ3.out
      rw [if_pos h58] at hans
      have HG : Hid (GramS w b .value (true :: op2) d u.tail (.slice (some ⟨g, off, none⟩) (op2.length + 1) cap) w3) := hid ⟨hans, HG.out.wv.below HBB.out, HB3.out, by have := HUL.out; have := HSL.out; rw [List.length_tail]; omega, hdl, fun e => by cases e⟩
      have hlt : gMu .value u.tail < gMu .value b := by have := HMU2.out; have := HUL.out; have := HSL.out; simp only [gMu, List.length_tail] at *; omega
      have HLT := hid hlt
      clear hans hlt h58 HQ3
      go_wp2_with fail
      refine wp_goto ?_
      exact ⟨_, .value, rfl, GramJ.mk HG.out⟩
     have h58b : ((c2.toNat : Int) == 58) = false := by
      rw [beq_eq_false_iff_ne]
      intro e9
      have e8 : c2.toNat = 58 := by omega
      exact h58 (UInt8.toNat_inj.1 (by rw [e8]; rfl))
     have h58c : ((c2.toNat : Int) != 58) = true := by rw [bne, h58b]; rfl
     have HZ : Hid (gramG .value [] 0 b = (0, false)) := hid (by rw [HQ3.out, if_neg h58])
     go_wp2_with fail
     refine bodyPost_ret (v := .tuple #[.int .i64 0, .bool false]) (by simp [results, Tryz.results45, go_sem]) rfl ?_
     exact ⟨by rw [HZ.out]; rfl, HB3.out⟩
    have h44b : ((c.toNat : Int) == 44) = false := by
     rw [beq_eq_false_iff_ne]
     intro e9
     have e8 : c.toNat = 44 := by omega
     exact h44 (UInt8.toNat_inj.1 (by rw [e8]; rfl))
    have h44c : ((c.toNat : Int) != 44) = true := by rw [bne, h44b]; rfl
    have hans := HA.out
    rw [if_neg h44] at hans
    have HZ := hid hans
    clear hans h44 HA
    go_wp2_with fail
    refine wp_region_quiet_fast (by kernel_rfl) (by kernel_rfl) ?_
    repeat (go_big_quiet_step (fail))
    refine wpQuiet_nil ?_
    intro _ hw'
    obtain ⟨nq, hw''⟩ := hw'
    subst hw''
    go_wp2_with fail
    refine bodyPost_ret (v := .tuple #[.int .i64 0, .bool false]) (by simp [results, Tryz.results45, go_sem]) rfl ?_
    exact ⟨by rw [HZ.out]; rfl, (HG.out.be.trans ((drewN_b _ nq).mono HG.out.be.size))⟩
   | false =>
    have hl9 : w3.cell? ⟨g, off + op2.length, none⟩ = some (.int .u8 91) := hlast
    clear hlast
    by_cases hE : c = 93
    ·
     have hEb : ((c.toNat : Int) == 93) = true := by rw [hE]; rfl
     have hans := HQ3.out
     rw [if_pos (show c = endB false from hE)] at hans
     have HA := hid hans
     clear hans hE HQ3
     go_wp2_with fail
     refine wp_region_quiet_fast (by kernel_rfl) (by kernel_rfl) ?_
     repeat (go_big_quiet_step (fail))
     refine wpQuiet_nil ?_
     intro _ hw'
     obtain ⟨nq, hw''⟩ := hw'
     subst hw''
     have HG : Hid (GramS w b .close (false :: op2) d u (.slice (some ⟨g, off, none⟩) (op2.length + 1) cap) (w3.drewN nq)) := hid ⟨HA.out, HG.out.wv.below (drewN_b _ nq), HG.out.be.trans ((drewN_b _ nq).mono HG.out.be.size), by have := HSL.out; simp only [List.length_cons]; omega, hdl, fun _ => ⟨by simp, fun e => by have := HUL.out; rw [e] at this; simp at this⟩⟩
     have hlt : gMu .close u < gMu .value b := by have := HMU2.out; have := HSL.out; simp only [gMu] at *; omega
     have HLT := hid hlt
     clear hlt
     go_wp2_with fail
     refine wp_goto ?_
     exact ⟨_, .close, rfl, GramJ.mk HG.out⟩
    have hEb : ((c.toNat : Int) == 93) = false := by
     rw [beq_eq_false_iff_ne]
     intro e9
     have e8 : c.toNat = 93 := by omega
     exact hE (UInt8.toNat_inj.1 (by rw [e8]; rfl))
    have hans := HQ3.out
    rw [if_neg (show ¬ c = endB false from hE)] at hans
    have HA := hid hans
    clear hans hE HQ3
    by_cases h44 : c = 44
    ·
     have h44b : ((c.toNat : Int) == 44) = true := by rw [h44]; rfl
     have h44c : ((c.toNat : Int) != 44) = false := by rw [bne, h44b]; rfl
     have hans := HA.out
     rw [if_pos h44] at hans
     have HA2 := hid hans
     clear hans h44 HA
     go_wp2_with fail
     refine wp_region_quiet_fast (by kernel_rfl) (by kernel_rfl) ?_
     repeat (go_big_quiet_step (fail))
     refine wpQuiet_nil ?_
     intro _ hw'
     obtain ⟨nq, hw''⟩ := hw'
     subst hw''
     have hl8 : (w3.drewN nq).cell? ⟨g, off + op2.length, none⟩ = some (.int .u8 91) := hl9
     clear hl9
     obtain ⟨s2, hs2⟩ : ∃ q, u.tail = q := ⟨_, rfl⟩
     have HS2L : Hid (s2.length + 1 ≤ u.length) := hid (by rw [← hs2, List.length_tail]; have := HUL.out; omega)
     rw [hs2] at HA2 hextu
     clear hs2
     have HG : Hid (GramS w b .value (false :: op2) d s2 (.slice (some ⟨g, off, none⟩) (op2.length + 1) cap) (w3.drewN nq)) := hid ⟨HA2.out, HG.out.wv.below (drewN_b _ nq), HG.out.be.trans ((drewN_b _ nq).mono HG.out.be.size), by have := HSL.out; have := HS2L.out; simp only [List.length_cons]; omega, hdl, fun e => by cases e⟩
     have HLT : Hid (gMu .value s2 < gMu .value b) := hid (by have := HMU2.out; have := HSL.out; have := HS2L.out; simp only [gMu] at *; omega)
     generalize w3.drewN nq = wd at *
     go_wp2_with fail
     refine wp_goto ?_
     exact ⟨_, .value, rfl, GramJ.mk HG.out⟩
    have h44b : ((c.toNat : Int) == 44) = false := by
     rw [beq_eq_false_iff_ne]
     intro e9
     have e8 : c.toNat = 44 := by omega
     exact h44 (UInt8.toNat_inj.1 (by rw [e8]; rfl))
    have h44c : ((c.toNat : Int) != 44) = true := by rw [bne, h44b]; rfl
    have hans := HA.out
    rw [if_neg h44] at hans
    have HZ := hid hans
    clear hans h44 HA
    go_wp2_with fail
    refine wp_region_quiet_fast (by kernel_rfl) (by kernel_rfl) ?_
    repeat (go_big_quiet_step (fail))
    refine wpQuiet_nil ?_
    intro _ hw'
    obtain ⟨nq, hw''⟩ := hw'
    subst hw''
    go_wp2_with fail
    refine bodyPost_ret (v := .tuple #[.int .i64 0, .bool false]) (by simp [results, Tryz.results45, go_sem]) rfl ?_
    exact ⟨by rw [HZ.out]; rfl, (HG.out.be.trans ((drewN_b _ nq).mono HG.out.be.size))⟩
 intro l n a' w' h
 obtain ⟨lab, rfl, hJ⟩ := h
 cases lab with
 | value =>
  refine ⟨_, rfl, ?_⟩
  obtain ⟨f, op, d, s, v, rfl, rfl, hS⟩ := hJ
  have HS := hid hS
  clear hS
  have HMU : Hid (gMu .value s ≤ gMu .value s) := hid (Nat.le_refl _)
  go_wp2_with fail
  refine (skip_calls w' s).mono ?_
  rintro e w2 ⟨rfl, rfl⟩
  have hans := HS.out.ans
  rw [gramV op d s] at hans
  have HANS := hid hans
  have hle := HS.out.le
  have hdl := HS.out.dl
  clear hans
  obtain ⟨u, hsk⟩ : ∃ u, skipS s = u := ⟨_, rfl⟩
  have HSL : Hid (u.length ≤ s.length) := hid (by rw [← hsk]; exact skip_len s)
  rw [hsk]
  have HSK := hid hsk
  clear hsk
  by_cases hu0 : u.length = 0
  ·
   obtain rfl : u = [] := List.length_eq_zero_iff.1 hu0
   have HZ : Hid (gramG .value [] 0 b = (0, false)) := hid (by rw [HANS.out, gV_nil HSK.out])
   clear hu0
   go_wp2_with fail
   refine bodyPost_ret (v := .tuple #[.int .i64 0, .bool false]) (by simp [results, Tryz.results45, go_sem]) rfl ?_
   exact ⟨by rw [HZ.out]; rfl, HS.out.be⟩
  have hul : 0 < u.length := by omega
  have hul1 : (1 : Int) ≤ (u.length : Int) := by omega
  have hul0 : (0 : Int) < (u.length : Int) := by omega
  have hij := byte_at u 0 hul
  have hextu : (⟨u.toArray⟩ : ByteArray).extract 1 u.length = ⟨u.tail.toArray⟩ := by rw [Lib.extract_eq]; rw [List.take_of_length_le (by simp), List.drop_one]
  have hue : u.isEmpty = false := by cases u with | nil => simp at hul | cons => rfl
  have hq3 := HANS.out
  rw [gV_cons HSK.out hul] at hq3
  have HQ3 := hid hq3
  have HUL : Hid (0 < u.length) := hid hul
  have hulb : u.length ≤ 100000000 := by have := HSL.out; omega
  clear hq3 hu0 HANS
  generalize u.getD 0 0 = c at *
  by_cases e91 : c = 91
  ·
   subst e91
   have hq3 := HQ3.out
   rw [if_pos (by decide), show (((91 : UInt8) == 123) = false) from rfl] at hq3
   have HQ4 := hid hq3
   clear hq3 HQ3
   have hb4 : Below w'.heap.size w' (w'.alloc (Obj.cells #[Value.int IntKind.u8 91] 5)) := (Below.refl _ _).alloc (Nat.le_refl _) _
   have HX := hid (byts_lit w' [91] (by decide) : BytS (w'.alloc (Obj.cells #[Value.int IntKind.u8 91] 5)) (.slice (some ⟨w'.heap.size, 0, none⟩) 1 1) [91])
   have HW4 := hid (HS.out.wv.below hb4)
   have HB4 := hid (HS.out.be.trans (hb4.mono HS.out.be.size))
   have hB4 : w.heap.size ≤ (w'.alloc (Obj.cells #[Value.int IntKind.u8 91] 5)).heap.size := HB4.out.size
   have hopl : (opB op).length + ([91] : List UInt8).length ≤ 100000000 := by rw [opB_len]; simp only [List.length_cons, List.length_nil]; have := HSL.out; omega
   clear hb4
   go_wp2_with (at_builtin; go_must (refine wpList_append_wait rfl _ _ rfl w.heap.size _ _ (opB op) [91] rfl HW4.out rfl HX.out hopl hB4 ?_))
   intro v3 w3 hv3 hg3 _
   have HW3 : Hid (WaitV w3 w.heap.size v3 (opB (false :: op))) := hid (by rw [opB_cons]; exact hv3)
   have HB3 := hid (HB4.out.grown hg3 hB4 (fun k hk => (HW4.out.lt hk).1))
   clear hv3 hg3 HX HW4 HB4 hB4
   obtain ⟨pp, cap, hv, _⟩ := HW3.out.byts.open
   rw [opB_len, List.length_cons] at hv
   subst hv
   go_wp2_with fail
   refine (skip_calls w3 u.tail).mono ?_
   rintro e w4 ⟨rfl, rfl⟩
   have HTL : Hid ((skipS u.tail).length + 1 ≤ u.length) := hid (by have h9 := skip_len u.tail; rw [List.length_tail] at h9; have := HUL.out; omega)
   generalize skipS u.tail = t2 at *
   obtain ⟨d2, hd2⟩ : ∃ q, max d (op.length + 1) = q := ⟨_, rfl⟩
   have hmx : max (d : Int) ((op.length : Int) + 1) = (d2 : Int) := by omega
   rw [hmx]
   clear hmx
   have hq5 := HQ4.out
   unfold gO at hq5
   rw [hd2] at hq5
   have HQ5 := hid hq5
   have HDL : Hid (d2 ≤ b.length) := hid (by rw [← hd2]; have := HSL.out; have := HUL.out; omega)
   clear hq5 HQ4 hij hextu hue hul hul1 hul0
   by_cases ht0 : t2.length = 0
   ·
    have hans := HQ5.out
    rw [if_pos ht0] at hans
    have HA := hid hans
    have HG : Hid (GramS w b .value (false :: op) d2 t2 (.slice pp (op.length + 1) cap) w3) := hid ⟨HA.out, HW3.out, HB3.out, by have := HSL.out; have := HTL.out; simp only [List.length_cons]; omega, HDL.out, fun e => by cases e⟩
    have HLT : Hid (gMu .value t2 < gMu .value s) := hid (by have := HMU.out; have := HSL.out; have := HTL.out; simp only [gMu] at *; omega)
    have hte : t2.isEmpty = true := by cases t2 with | nil => rfl | cons => simp at ht0
    clear hans
    go_wp2_with fail
    refine wp_goto ?_
    exact ⟨_, HLT.out, .value, rfl, GramJ.mk HG.out⟩
   have htl : 0 < t2.length := by omega
   have htl0 : (0 : Int) < (t2.length : Int) := by omega
   have htj := byte_at t2 0 htl
   have hte : t2.isEmpty = false := by cases t2 with | nil => simp at htl | cons => rfl
   have hq6 := HQ5.out
   rw [if_neg ht0] at hq6
   have HQ6 := hid hq6
   have HTP := hid htl
   clear hq6 HQ5 ht0
   generalize t2.getD 0 0 = c2 at *
   by_cases hE : c2 = 93
   ·
    have hans := HQ6.out
    rw [if_pos (show c2 = endB false from hE)] at hans
    have HA := hid hans
    have HG : Hid (GramS w b .close (false :: op) d2 t2 (.slice pp (op.length + 1) cap) w3) := hid ⟨HA.out, HW3.out, HB3.out, by have := HSL.out; have := HTL.out; simp only [List.length_cons]; omega, HDL.out, fun _ => ⟨by simp, fun e => by have := HTP.out; rw [e] at this; simp at this⟩⟩
    have HLT : Hid (gMu .close t2 < gMu .value s) := hid (by have := HMU.out; have := HSL.out; have := HTL.out; simp only [gMu] at *; omega)
    have hEb : ((c2.toNat : Int) == 93) = true := by rw [hE]; rfl
    clear hans hE HQ6
    go_wp2_with fail
    refine wp_goto ?_
    exact ⟨_, HLT.out, .close, rfl, GramJ.mk HG.out⟩
   have hans := HQ6.out
   rw [if_neg (show ¬ c2 = endB false from hE)] at hans
   have HA := hid hans
   have HG : Hid (GramS w b .value (false :: op) d2 t2 (.slice pp (op.length + 1) cap) w3) := hid ⟨HA.out, HW3.out, HB3.out, by have := HSL.out; have := HTL.out; simp only [List.length_cons]; omega, HDL.out, fun e => by cases e⟩
   have HLT : Hid (gMu .value t2 < gMu .value s) := hid (by have := HMU.out; have := HSL.out; have := HTL.out; simp only [gMu] at *; omega)
   have hEb : ((c2.toNat : Int) == 93) = false := by
    rw [beq_eq_false_iff_ne]
    intro e9
    have e8 : c2.toNat = 93 := by omega
    exact hE (UInt8.toNat_inj.1 (by rw [e8]; rfl))
   clear hans hE HQ6
   go_wp2_with fail
   refine wp_goto ?_
   exact ⟨_, HLT.out, .value, rfl, GramJ.mk HG.out⟩
  by_cases e123 : c = 123
  ·
   subst e123
   have hq3 := HQ3.out
   rw [if_pos (by decide), show (((123 : UInt8) == 123) = true) from rfl] at hq3
   have HQ4 := hid hq3
   clear hq3 HQ3
   have hb4 : Below w'.heap.size w' (w'.alloc (Obj.cells #[Value.int IntKind.u8 123] 5)) := (Below.refl _ _).alloc (Nat.le_refl _) _
   have HX := hid (byts_lit w' [123] (by decide) : BytS (w'.alloc (Obj.cells #[Value.int IntKind.u8 123] 5)) (.slice (some ⟨w'.heap.size, 0, none⟩) 1 1) [123])
   have HW4 := hid (HS.out.wv.below hb4)
   have HB4 := hid (HS.out.be.trans (hb4.mono HS.out.be.size))
   have hB4 : w.heap.size ≤ (w'.alloc (Obj.cells #[Value.int IntKind.u8 123] 5)).heap.size := HB4.out.size
   have hopl : (opB op).length + ([123] : List UInt8).length ≤ 100000000 := by rw [opB_len]; simp only [List.length_cons, List.length_nil]; have := HSL.out; omega
   clear hb4
   go_wp2_with (at_builtin; go_must (refine wpList_append_wait rfl _ _ rfl w.heap.size _ _ (opB op) [123] rfl HW4.out rfl HX.out hopl hB4 ?_))
   intro v3 w3 hv3 hg3 _
   have HW3 : Hid (WaitV w3 w.heap.size v3 (opB (true :: op))) := hid (by rw [opB_cons]; exact hv3)
   have HB3 := hid (HB4.out.grown hg3 hB4 (fun k hk => (HW4.out.lt hk).1))
   clear hv3 hg3 HX HW4 HB4 hB4
   obtain ⟨pp, cap, hv, _⟩ := HW3.out.byts.open
   rw [opB_len, List.length_cons] at hv
   subst hv
   go_wp2_with fail
   refine (skip_calls w3 u.tail).mono ?_
   rintro e w4 ⟨rfl, rfl⟩
   have HTL : Hid ((skipS u.tail).length + 1 ≤ u.length) := hid (by have h9 := skip_len u.tail; rw [List.length_tail] at h9; have := HUL.out; omega)
   generalize skipS u.tail = t2 at *
   obtain ⟨d2, hd2⟩ : ∃ q, max d (op.length + 1) = q := ⟨_, rfl⟩
   have hmx : max (d : Int) ((op.length : Int) + 1) = (d2 : Int) := by omega
   rw [hmx]
   clear hmx
   have hq5 := HQ4.out
   unfold gO at hq5
   rw [hd2] at hq5
   have HQ5 := hid hq5
   have HDL : Hid (d2 ≤ b.length) := hid (by rw [← hd2]; have := HSL.out; have := HUL.out; omega)
   clear hq5 HQ4 hij hextu hue hul hul1 hul0
   by_cases ht0 : t2.length = 0
   ·
    have hans := HQ5.out
    rw [if_pos ht0] at hans
    have HA := hid hans
    have HG : Hid (GramS w b .name (true :: op) d2 t2 (.slice pp (op.length + 1) cap) w3) := hid ⟨HA.out, HW3.out, HB3.out, by have := HSL.out; have := HTL.out; simp only [List.length_cons]; omega, HDL.out, fun e => by cases e⟩
    have HLT : Hid (gMu .name t2 < gMu .value s) := hid (by have := HMU.out; have := HSL.out; have := HTL.out; simp only [gMu] at *; omega)
    have hte : t2.isEmpty = true := by cases t2 with | nil => rfl | cons => simp at ht0
    clear hans
    go_wp2_with fail
    refine wp_goto ?_
    exact ⟨_, HLT.out, .name, rfl, GramJ.mk HG.out⟩
   have htl : 0 < t2.length := by omega
   have htl0 : (0 : Int) < (t2.length : Int) := by omega
   have htj := byte_at t2 0 htl
   have hte : t2.isEmpty = false := by cases t2 with | nil => simp at htl | cons => rfl
   have hq6 := HQ5.out
   rw [if_neg ht0] at hq6
   have HQ6 := hid hq6
   have HTP := hid htl
   clear hq6 HQ5 ht0
   generalize t2.getD 0 0 = c2 at *
   by_cases hE : c2 = 125
   ·
    have hans := HQ6.out
    rw [if_pos (show c2 = endB true from hE)] at hans
    have HA := hid hans
    have HG : Hid (GramS w b .close (true :: op) d2 t2 (.slice pp (op.length + 1) cap) w3) := hid ⟨HA.out, HW3.out, HB3.out, by have := HSL.out; have := HTL.out; simp only [List.length_cons]; omega, HDL.out, fun _ => ⟨by simp, fun e => by have := HTP.out; rw [e] at this; simp at this⟩⟩
    have HLT : Hid (gMu .close t2 < gMu .value s) := hid (by have := HMU.out; have := HSL.out; have := HTL.out; simp only [gMu] at *; omega)
    have hEb : ((c2.toNat : Int) == 125) = true := by rw [hE]; rfl
    clear hans hE HQ6
    go_wp2_with fail
    refine wp_goto ?_
    exact ⟨_, HLT.out, .close, rfl, GramJ.mk HG.out⟩
   have hans := HQ6.out
   rw [if_neg (show ¬ c2 = endB true from hE)] at hans
   have HA := hid hans
   have HG : Hid (GramS w b .name (true :: op) d2 t2 (.slice pp (op.length + 1) cap) w3) := hid ⟨HA.out, HW3.out, HB3.out, by have := HSL.out; have := HTL.out; simp only [List.length_cons]; omega, HDL.out, fun e => by cases e⟩
   have HLT : Hid (gMu .name t2 < gMu .value s) := hid (by have := HMU.out; have := HSL.out; have := HTL.out; simp only [gMu] at *; omega)
   have hEb : ((c2.toNat : Int) == 125) = false := by
    rw [beq_eq_false_iff_ne]
    intro e9
    have e8 : c2.toNat = 125 := by omega
    exact hE (UInt8.toNat_inj.1 (by rw [e8]; rfl))
   clear hans hE HQ6
   go_wp2_with fail
   refine wp_goto ?_
   exact ⟨_, HLT.out, .name, rfl, GramJ.mk HG.out⟩
  have h91 : ((c.toNat : Int) == 91) = false := by
   rw [beq_eq_false_iff_ne]
   intro e9
   have e8 : c.toNat = 91 := by omega
   exact e91 (UInt8.toNat_inj.1 (by rw [e8]; rfl))
  have h123 : ((c.toNat : Int) == 123) = false := by
   rw [beq_eq_false_iff_ne]
   intro e9
   have e8 : c.toNat = 123 := by omega
   exact e123 (UInt8.toNat_inj.1 (by rw [e8]; rfl))
  have hq3 := HQ3.out
  rw [if_neg (fun h => h.elim e91 e123)] at hq3
  have HQ4 := hid hq3
  clear hq3 HQ3 e91 e123
  go_wp2_with fail
  refine (scalarP_calls w' u (by omega) hul).mono ?_
  rintro e w3 ⟨hb3, n, rfl, hn⟩
  have HB3 := hid (HS.out.be.trans (hb3.mono HS.out.be.size))
  have HWV := hid (HS.out.wv.below hb3)
  clear hb3
  rcases hn with ⟨hn0, hq⟩ | ⟨hn0, hnl, hq⟩
  ·
   subst hn0
   have HZ : Hid (gramG .value [] 0 b = (0, false)) := hid (by rw [HQ4.out, hq])
   go_wp2_with fail
   refine bodyPost_ret (v := .tuple #[.int .i64 0, .bool false]) (by simp [results, Tryz.results45, go_sem]) rfl ?_
   exact ⟨by rw [HZ.out]; rfl, HB3.out⟩
  have hnb : ((n : Int) == 0) = false := by rw [beq_eq_false_iff_ne]; omega
  have hnl2 : (n : Int) ≤ (u.length : Int) := by omega
  have hext := ext_drop u n
  have hq2 := HQ4.out
  rw [hq] at hq2
  simp only at hq2
  have HA := hid hq2
  clear hq hq2 HQ4
  obtain ⟨s3, hs3⟩ : ∃ q, u.drop n = q := ⟨_, rfl⟩
  have HS3L : Hid (s3.length + n = u.length) := hid (by rw [← hs3, List.length_drop]; omega)
  rw [hs3] at HA hext
  clear hs3
  have HG : Hid (GramS w b .behind op d s3 v w3) := hid ⟨HA.out, HWV.out, HB3.out, by have := HSL.out; have := HS3L.out; omega, hdl, fun e => by cases e⟩
  have HMU2 : Hid (gMu .behind s3 ≤ gMu .value s) := hid (by have := HMU.out; have := HSL.out; have := HS3L.out; simp only [gMu] at *; omega)
  go_wp2_with fail
  refine wp_label ?_
  clear hul hul1 hul0 hij hextu hue HUL hulb hle hdl h91 h123 hn0 hnl hnb hnl2 hext HA HS3L HSL HSK HWV HB3
  go_wp2_with fail
  refine (skip_calls w3 s3).mono ?_
  rintro e w2 ⟨rfl, rfl⟩
  have hans := HG.out.ans
  rw [gramB'] at hans
  have HANS := hid hans
  have hle := HG.out.le
  have hdl := HG.out.dl
  clear hans
  obtain ⟨u, hsk⟩ : ∃ u, skipS s3 = u := ⟨_, rfl⟩
  have HSL : Hid (u.length ≤ s3.length) := hid (by rw [← hsk]; exact skip_len s3)
  rw [hsk]
  have HSK := hid hsk
  clear hsk
  cases op with
  | nil =>
   obtain ⟨pp, cap, hv, _⟩ := HG.out.wv.byts.open
   have hv2 : v = .slice pp 0 cap := hv
   subst hv2
   clear hv
   have HZ : Hid (gramG .value [] 0 b = (d, u.isEmpty)) := hid (by rw [HANS.out]; unfold gB; simp only; rw [HSK.out])
   go_wp2_with fail
   refine bodyPost_ret (v := .tuple #[.int .i64 (d : Int), .bool u.isEmpty]) (by simp [results, Tryz.results45, go_sem]) rfl ?_
   exact ⟨by rw [HZ.out], HG.out.be⟩
  | cons ob op2 =>
   rcases HG.out.wv with ⟨_, h0⟩ | ⟨g, off, cap, hv, hg1, hg2, hcl, hcm, hcc, hcs, hcf⟩
   ·exact absurd h0 (by rw [opB_cons]; simp)
   rw [opB_len, List.length_cons] at hv hcl
   subst hv
   have hcap : (op2.length : Int) + 1 ≤ (cap : Int) := by omega
   have hopl : op2.length + 1 + s3.length ≤ b.length := by simpa using hle
   clear hle
   have hlast := hcc op2.length (by rw [opB_len]; simp)
   rw [show (opB (ob :: op2)).getD op2.length 0 = (if ob then 123 else 91) from by rw [opB_cons, List.getD_eq_getElem?_getD, List.getElem?_append_right (by rw [opB_len]; exact Nat.le_refl _), opB_len, Nat.sub_self]; rfl] at hlast
   clear hcc hcs hcf hg1 hg2 hcm hcl
   by_cases hu0 : u.length = 0
   ·
    obtain rfl : u = [] := List.length_eq_zero_iff.1 hu0
    have HZ : Hid (gramG .value [] 0 b = (0, false)) := hid (by rw [HANS.out, gB_nil HSK.out])
    clear hu0
    go_wp2_with fail
    refine bodyPost_ret (v := .tuple #[.int .i64 0, .bool false]) (by simp [results, Tryz.results45, go_sem]) rfl ?_
    exact ⟨by rw [HZ.out]; rfl, HG.out.be⟩
   have hul : 0 < u.length := by omega
   have hul1 : (1 : Int) ≤ (u.length : Int) := by omega
   have hul0 : (0 : Int) < (u.length : Int) := by omega
   have hij := byte_at u 0 hul
   have hextu : (⟨u.toArray⟩ : ByteArray).extract 1 u.length = ⟨u.tail.toArray⟩ := by rw [Lib.extract_eq]; rw [List.take_of_length_le (by simp), List.drop_one]
   have hue : u.isEmpty = false := by cases u with | nil => simp at hul | cons => rfl
   have hq3 := HANS.out
   rw [gB_cons HSK.out hul] at hq3
   have HQ3 := hid hq3
   clear hq3 hu0 HANS
   generalize u.getD 0 0 = c at *
   have HUL : Hid (0 < u.length) := hid hul
   cases ob with
   | true =>
    have hl9 : w3.cell? ⟨g, off + op2.length, none⟩ = some (.int .u8 123) := hlast
    clear hlast
    by_cases hE : c = 125
    ·
     have hEb : ((c.toNat : Int) == 125) = true := by rw [hE]; rfl
     have hans := HQ3.out
     rw [if_pos (show c = endB true from hE)] at hans
     have HA := hid hans
     clear hans hE HQ3
     go_wp2_with fail
     refine wp_region_quiet_fast (by kernel_rfl) (by kernel_rfl) ?_
     repeat (go_big_quiet_step (fail))
     refine wpQuiet_nil ?_
     intro _ hw'
     obtain ⟨nq, hw''⟩ := hw'
     subst hw''
     have HG : Hid (GramS w b .close (true :: op2) d u (.slice (some ⟨g, off, none⟩) (op2.length + 1) cap) (w3.drewN nq)) := hid ⟨HA.out, HG.out.wv.below (drewN_b _ nq), HG.out.be.trans ((drewN_b _ nq).mono HG.out.be.size), by have := HSL.out; simp only [List.length_cons]; omega, hdl, fun _ => ⟨by simp, fun e => by have := HUL.out; rw [e] at this; simp at this⟩⟩
     have hlt : gMu .close u < gMu .value s := by have := HMU2.out; have := HSL.out; simp only [gMu] at *; omega
     have HLT := hid hlt
     clear hlt
     go_wp2_with fail
     refine wp_goto ?_
     exact ⟨_, HLT.out, .close, rfl, GramJ.mk HG.out⟩
    have hEb : ((c.toNat : Int) == 125) = false := by
     rw [beq_eq_false_iff_ne]
     intro e9
     have e8 : c.toNat = 125 := by omega
     exact hE (UInt8.toNat_inj.1 (by rw [e8]; rfl))
    have hans := HQ3.out
    rw [if_neg (show ¬ c = endB true from hE)] at hans
    have HA := hid hans
    clear hans hE HQ3
    by_cases h44 : c = 44
    ·
     have h44b : ((c.toNat : Int) == 44) = true := by rw [h44]; rfl
     have h44c : ((c.toNat : Int) != 44) = false := by rw [bne, h44b]; rfl
     have hans := HA.out
     rw [if_pos h44] at hans
     have HA2 := hid hans
     clear hans h44 HA
     go_wp2_with fail
     refine wp_region_quiet_fast (by kernel_rfl) (by kernel_rfl) ?_
     repeat (go_big_quiet_step (fail))
     refine wpQuiet_nil ?_
     intro _ hw'
     obtain ⟨nq, hw''⟩ := hw'
     subst hw''
     have hl8 : (w3.drewN nq).cell? ⟨g, off + op2.length, none⟩ = some (.int .u8 123) := hl9
     clear hl9
     obtain ⟨s2, hs2⟩ : ∃ q, u.tail = q := ⟨_, rfl⟩
     have HS2L : Hid (s2.length + 1 ≤ u.length) := hid (by rw [← hs2, List.length_tail]; have := HUL.out; omega)
     rw [hs2] at HA2 hextu
     clear hs2
     have HG : Hid (GramS w b .name (true :: op2) d s2 (.slice (some ⟨g, off, none⟩) (op2.length + 1) cap) (w3.drewN nq)) := hid ⟨HA2.out, HG.out.wv.below (drewN_b _ nq), HG.out.be.trans ((drewN_b _ nq).mono HG.out.be.size), by have := HSL.out; have := HS2L.out; simp only [List.length_cons]; omega, hdl, fun e => by cases e⟩
     have HLT : Hid (gMu .name s2 < gMu .value s) := hid (by have := HMU2.out; have := HSL.out; have := HS2L.out; simp only [gMu] at *; omega)
     generalize w3.drewN nq = wd at *
     have HMU2 := hid (Nat.le_of_lt HLT.out)
     go_wp2_with fail
     refine wp_label ?_
     clear hul1 hul0 hij hue hdl hEb h44b h44c HSL HSK HUL HA2
     go_wp2_with fail
     refine (skip_calls wd s2).mono ?_
     rintro e w2 ⟨rfl, rfl⟩
     have hans := HG.out.ans
     rw [gramN, gN_qd] at hans
     have hle := HG.out.le
     have hdl := HG.out.dl
     have HSL : Hid ((skipS s2).length ≤ s2.length) := hid (skip_len s2)
     have HANS := hid hans
     have hrl : (skipS s2).length ≤ 100000000 := by have := HSL.out; omega
     clear hans
     generalize skipS s2 = r at *
     go_wp2_with fail
     refine (quotedP_calls wd r (by omega)).mono ?_
     rintro e w3 ⟨hb3, n, rfl, hn⟩
     have HN := hid hn
     have HB3 := hid (HG.out.be.trans (hb3.mono HG.out.be.size))
     have HBB := hid hb3
     clear hb3
     rcases hn with ⟨hn0, hq⟩ | ⟨hn0, hnl, hq⟩
     ·
      subst hn0
      have HZ : Hid (gramG .value [] 0 b = (0, false)) := hid (by rw [HANS.out, hq])
      go_wp2_with fail
      refine bodyPost_ret (v := .tuple #[.int .i64 0, .bool false]) (by simp [results, Tryz.results45, go_sem]) rfl ?_
      exact ⟨by rw [HZ.out]; rfl, HB3.out⟩
     have hnb : ((n : Int) == 0) = false := by rw [beq_eq_false_iff_ne]; omega
     have hnl2 : (n : Int) ≤ (r.length : Int) := by omega
     have hext := ext_drop r n
     have hq2 := HANS.out
     rw [hq] at hq2
     simp only at hq2
     have HQ := hid hq2
     have HUL : Hid ((skipS (r.drop n)).length ≤ (r.drop n).length ∧ (r.drop n).length + n = r.length) := hid ⟨skip_len _, by rw [List.length_drop]; omega⟩
     clear hq hq2 HANS HN
     go_wp2_with fail
     refine (skip_calls w3 (r.drop n)).mono ?_
     rintro e w4 ⟨rfl, rfl⟩
     generalize r.drop n = q at *
     generalize skipS q = u at *
     by_cases hu0 : u.length = 0
     ·
      obtain rfl : u = [] := List.length_eq_zero_iff.1 hu0
      have HZ := HQ
      clear hu0
      go_wp2_with fail
      refine bodyPost_ret (v := .tuple #[.int .i64 0, .bool false]) (by simp [results, Tryz.results45, go_sem]) rfl ?_
      exact ⟨by rw [HZ.out]; rfl, HB3.out⟩
     have hul : 0 < u.length := by omega
     have hul1 : (1 : Int) ≤ (u.length : Int) := by omega
     have hul0 : (0 : Int) < (u.length : Int) := by omega
     have huc := cons_getD hul
     have hij := byte_at u 0 hul
     have hextu : (⟨u.toArray⟩ : ByteArray).extract 1 u.length = ⟨u.tail.toArray⟩ := by rw [Lib.extract_eq]; rw [List.take_of_length_le (by simp), List.drop_one]
     have hue : u.isEmpty = false := by cases u with | nil => simp at hul | cons => rfl
     have hq3 := HQ.out
     rw [huc] at hq3
     simp only at hq3
     have HQ3 := hid hq3
     clear hq3 huc HQ hu0
     generalize u.getD 0 0 = c2 at *
     by_cases h58 : c2 = 58
     ·
      have h58b : ((c2.toNat : Int) == 58) = true := by rw [h58]; rfl
      have h58c : ((c2.toNat : Int) != 58) = false := by rw [bne, h58b]; rfl
      have hans := HQ3.out
      rw [if_pos h58] at hans
      have HG : Hid (GramS w b .value (true :: op2) d u.tail (.slice (some ⟨g, off, none⟩) (op2.length + 1) cap) w3) := hid ⟨hans, HG.out.wv.below HBB.out, HB3.out, by have := HUL.out; have := HSL.out; rw [List.length_tail]; omega, hdl, fun e => by cases e⟩
      have hlt : gMu .value u.tail < gMu .value s := by have := HMU2.out; have := HUL.out; have := HSL.out; simp only [gMu, List.length_tail] at *; omega
      have HLT := hid hlt
      clear hans hlt h58 HQ3
      go_wp2_with fail
      refine wp_goto ?_
      exact ⟨_, HLT.out, .value, rfl, GramJ.mk HG.out⟩
     have h58b : ((c2.toNat : Int) == 58) = false := by
      rw [beq_eq_false_iff_ne]
      intro e9
      have e8 : c2.toNat = 58 := by omega
      exact h58 (UInt8.toNat_inj.1 (by rw [e8]; rfl))
     have h58c : ((c2.toNat : Int) != 58) = true := by rw [bne, h58b]; rfl
     have HZ : Hid (gramG .value [] 0 b = (0, false)) := hid (by rw [HQ3.out, if_neg h58])
     go_wp2_with fail
     refine bodyPost_ret (v := .tuple #[.int .i64 0, .bool false]) (by simp [results, Tryz.results45, go_sem]) rfl ?_
     exact ⟨by rw [HZ.out]; rfl, HB3.out⟩
    have h44b : ((c.toNat : Int) == 44) = false := by
     rw [beq_eq_false_iff_ne]
     intro e9
     have e8 : c.toNat = 44 := by omega
     exact h44 (UInt8.toNat_inj.1 (by rw [e8]; rfl))
    have h44c : ((c.toNat : Int) != 44) = true := by rw [bne, h44b]; rfl
    have hans := HA.out
    rw [if_neg h44] at hans
    have HZ := hid hans
    clear hans h44 HA
    go_wp2_with fail
    refine wp_region_quiet_fast (by kernel_rfl) (by kernel_rfl) ?_
    repeat (go_big_quiet_step (fail))
    refine wpQuiet_nil ?_
    intro _ hw'
    obtain ⟨nq, hw''⟩ := hw'
    subst hw''
    go_wp2_with fail
    refine bodyPost_ret (v := .tuple #[.int .i64 0, .bool false]) (by simp [results, Tryz.results45, go_sem]) rfl ?_
    exact ⟨by rw [HZ.out]; rfl, (HG.out.be.trans ((drewN_b _ nq).mono HG.out.be.size))⟩
   | false =>
    have hl9 : w3.cell? ⟨g, off + op2.length, none⟩ = some (.int .u8 91) := hlast
    clear hlast
    by_cases hE : c = 93
    ·
     have hEb : ((c.toNat : Int) == 93) = true := by rw [hE]; rfl
     have hans := HQ3.out
     rw [if_pos (show c = endB false from hE)] at hans
     have HA := hid hans
     clear hans hE HQ3
     go_wp2_with fail
     refine wp_region_quiet_fast (by kernel_rfl) (by kernel_rfl) ?_
     repeat (go_big_quiet_step (fail))
     refine wpQuiet_nil ?_
     intro _ hw'
     obtain ⟨nq, hw''⟩ := hw'
     subst hw''
     have HG : Hid (GramS w b .close (false :: op2) d u (.slice (some ⟨g, off, none⟩) (op2.length + 1) cap) (w3.drewN nq)) := hid ⟨HA.out, HG.out.wv.below (drewN_b _ nq), HG.out.be.trans ((drewN_b _ nq).mono HG.out.be.size), by have := HSL.out; simp only [List.length_cons]; omega, hdl, fun _ => ⟨by simp, fun e => by have := HUL.out; rw [e] at this; simp at this⟩⟩
     have hlt : gMu .close u < gMu .value s := by have := HMU2.out; have := HSL.out; simp only [gMu] at *; omega
     have HLT := hid hlt
     clear hlt
     go_wp2_with fail
     refine wp_goto ?_
     exact ⟨_, HLT.out, .close, rfl, GramJ.mk HG.out⟩
    have hEb : ((c.toNat : Int) == 93) = false := by
     rw [beq_eq_false_iff_ne]
     intro e9
     have e8 : c.toNat = 93 := by omega
     exact hE (UInt8.toNat_inj.1 (by rw [e8]; rfl))
    have hans := HQ3.out
    rw [if_neg (show ¬ c = endB false from hE)] at hans
    have HA := hid hans
    clear hans hE HQ3
    by_cases h44 : c = 44
    ·
     have h44b : ((c.toNat : Int) == 44) = true := by rw [h44]; rfl
     have h44c : ((c.toNat : Int) != 44) = false := by rw [bne, h44b]; rfl
     have hans := HA.out
     rw [if_pos h44] at hans
     have HA2 := hid hans
     clear hans h44 HA
     go_wp2_with fail
     refine wp_region_quiet_fast (by kernel_rfl) (by kernel_rfl) ?_
     repeat (go_big_quiet_step (fail))
     refine wpQuiet_nil ?_
     intro _ hw'
     obtain ⟨nq, hw''⟩ := hw'
     subst hw''
     have hl8 : (w3.drewN nq).cell? ⟨g, off + op2.length, none⟩ = some (.int .u8 91) := hl9
     clear hl9
     obtain ⟨s2, hs2⟩ : ∃ q, u.tail = q := ⟨_, rfl⟩
     have HS2L : Hid (s2.length + 1 ≤ u.length) := hid (by rw [← hs2, List.length_tail]; have := HUL.out; omega)
     rw [hs2] at HA2 hextu
     clear hs2
     have HG : Hid (GramS w b .value (false :: op2) d s2 (.slice (some ⟨g, off, none⟩) (op2.length + 1) cap) (w3.drewN nq)) := hid ⟨HA2.out, HG.out.wv.below (drewN_b _ nq), HG.out.be.trans ((drewN_b _ nq).mono HG.out.be.size), by have := HSL.out; have := HS2L.out; simp only [List.length_cons]; omega, hdl, fun e => by cases e⟩
     have HLT : Hid (gMu .value s2 < gMu .value s) := hid (by have := HMU2.out; have := HSL.out; have := HS2L.out; simp only [gMu] at *; omega)
     generalize w3.drewN nq = wd at *
     go_wp2_with fail
     refine wp_goto ?_
     exact ⟨_, HLT.out, .value, rfl, GramJ.mk HG.out⟩
    have h44b : ((c.toNat : Int) == 44) = false := by
     rw [beq_eq_false_iff_ne]
     intro e9
     have e8 : c.toNat = 44 := by omega
     exact h44 (UInt8.toNat_inj.1 (by rw [e8]; rfl))
    have h44c : ((c.toNat : Int) != 44) = true := by rw [bne, h44b]; rfl
    have hans := HA.out
    rw [if_neg h44] at hans
    have HZ := hid hans
    clear hans h44 HA
    go_wp2_with fail
    refine wp_region_quiet_fast (by kernel_rfl) (by kernel_rfl) ?_
    repeat (go_big_quiet_step (fail))
    refine wpQuiet_nil ?_
    intro _ hw'
    obtain ⟨nq, hw''⟩ := hw'
    subst hw''
    go_wp2_with fail
    refine bodyPost_ret (v := .tuple #[.int .i64 0, .bool false]) (by simp [results, Tryz.results45, go_sem]) rfl ?_
    exact ⟨by rw [HZ.out]; rfl, (HG.out.be.trans ((drewN_b _ nq).mono HG.out.be.size))⟩
 | behind =>
  refine ⟨_, rfl, ?_⟩
  obtain ⟨f, op, d, s, v, rfl, rfl, hS⟩ := hJ
  have HS := hid hS
  clear hS
  have HMU : Hid (gMu .behind s ≤ gMu .behind s) := hid (Nat.le_refl _)
  go_wp2_with fail
  refine (skip_calls w' s).mono ?_
  rintro e w2 ⟨rfl, rfl⟩
  have hans := HS.out.ans
  rw [gramB'] at hans
  have HANS := hid hans
  have hle := HS.out.le
  have hdl := HS.out.dl
  clear hans
  obtain ⟨u, hsk⟩ : ∃ u, skipS s = u := ⟨_, rfl⟩
  have HSL : Hid (u.length ≤ s.length) := hid (by rw [← hsk]; exact skip_len s)
  rw [hsk]
  have HSK := hid hsk
  clear hsk
  cases op with
  | nil =>
   obtain ⟨pp, cap, hv, _⟩ := HS.out.wv.byts.open
   have hv2 : v = .slice pp 0 cap := hv
   subst hv2
   clear hv
   have HZ : Hid (gramG .value [] 0 b = (d, u.isEmpty)) := hid (by rw [HANS.out]; unfold gB; simp only; rw [HSK.out])
   go_wp2_with fail
   refine bodyPost_ret (v := .tuple #[.int .i64 (d : Int), .bool u.isEmpty]) (by simp [results, Tryz.results45, go_sem]) rfl ?_
   exact ⟨by rw [HZ.out], HS.out.be⟩
  | cons ob op2 =>
   rcases HS.out.wv with ⟨_, h0⟩ | ⟨g, off, cap, hv, hg1, hg2, hcl, hcm, hcc, hcs, hcf⟩
   ·exact absurd h0 (by rw [opB_cons]; simp)
   rw [opB_len, List.length_cons] at hv hcl
   subst hv
   have hcap : (op2.length : Int) + 1 ≤ (cap : Int) := by omega
   have hopl : op2.length + 1 + s.length ≤ b.length := by simpa using hle
   clear hle
   have hlast := hcc op2.length (by rw [opB_len]; simp)
   rw [show (opB (ob :: op2)).getD op2.length 0 = (if ob then 123 else 91) from by rw [opB_cons, List.getD_eq_getElem?_getD, List.getElem?_append_right (by rw [opB_len]; exact Nat.le_refl _), opB_len, Nat.sub_self]; rfl] at hlast
   clear hcc hcs hcf hg1 hg2 hcm hcl
   by_cases hu0 : u.length = 0
   ·
    obtain rfl : u = [] := List.length_eq_zero_iff.1 hu0
    have HZ : Hid (gramG .value [] 0 b = (0, false)) := hid (by rw [HANS.out, gB_nil HSK.out])
    clear hu0
    go_wp2_with fail
    refine bodyPost_ret (v := .tuple #[.int .i64 0, .bool false]) (by simp [results, Tryz.results45, go_sem]) rfl ?_
    exact ⟨by rw [HZ.out]; rfl, HS.out.be⟩
   have hul : 0 < u.length := by omega
   have hul1 : (1 : Int) ≤ (u.length : Int) := by omega
   have hul0 : (0 : Int) < (u.length : Int) := by omega
   have hij := byte_at u 0 hul
   have hextu : (⟨u.toArray⟩ : ByteArray).extract 1 u.length = ⟨u.tail.toArray⟩ := by rw [Lib.extract_eq]; rw [List.take_of_length_le (by simp), List.drop_one]
   have hue : u.isEmpty = false := by cases u with | nil => simp at hul | cons => rfl
   have hq3 := HANS.out
   rw [gB_cons HSK.out hul] at hq3
   have HQ3 := hid hq3
   clear hq3 hu0 HANS
   generalize u.getD 0 0 = c at *
   have HUL : Hid (0 < u.length) := hid hul
   cases ob with
   | true =>
    have hl9 : w'.cell? ⟨g, off + op2.length, none⟩ = some (.int .u8 123) := hlast
    clear hlast
    by_cases hE : c = 125
    ·
     have hEb : ((c.toNat : Int) == 125) = true := by rw [hE]; rfl
     have hans := HQ3.out
     rw [if_pos (show c = endB true from hE)] at hans
     have HA := hid hans
     clear hans hE HQ3
     go_wp2_with fail
     refine wp_region_quiet_fast (by kernel_rfl) (by kernel_rfl) ?_
     repeat (go_big_quiet_step (fail))
     refine wpQuiet_nil ?_
     intro _ hw'
     obtain ⟨nq, hw''⟩ := hw'
     subst hw''
     have HG : Hid (GramS w b .close (true :: op2) d u (.slice (some ⟨g, off, none⟩) (op2.length + 1) cap) (w'.drewN nq)) := hid ⟨HA.out, HS.out.wv.below (drewN_b _ nq), HS.out.be.trans ((drewN_b _ nq).mono HS.out.be.size), by have := HSL.out; simp only [List.length_cons]; omega, hdl, fun _ => ⟨by simp, fun e => by have := HUL.out; rw [e] at this; simp at this⟩⟩
     have hlt : gMu .close u < gMu .behind s := by have := HMU.out; have := HSL.out; simp only [gMu] at *; omega
     have HLT := hid hlt
     clear hlt
     go_wp2_with fail
     refine wp_goto ?_
     exact ⟨_, HLT.out, .close, rfl, GramJ.mk HG.out⟩
    have hEb : ((c.toNat : Int) == 125) = false := by
     rw [beq_eq_false_iff_ne]
     intro e9
     have e8 : c.toNat = 125 := by omega
     exact hE (UInt8.toNat_inj.1 (by rw [e8]; rfl))
    have hans := HQ3.out
    rw [if_neg (show ¬ c = endB true from hE)] at hans
    have HA := hid hans
    clear hans hE HQ3
    by_cases h44 : c = 44
    ·
     have h44b : ((c.toNat : Int) == 44) = true := by rw [h44]; rfl
     have h44c : ((c.toNat : Int) != 44) = false := by rw [bne, h44b]; rfl
     have hans := HA.out
     rw [if_pos h44] at hans
     have HA2 := hid hans
     clear hans h44 HA
     go_wp2_with fail
     refine wp_region_quiet_fast (by kernel_rfl) (by kernel_rfl) ?_
     repeat (go_big_quiet_step (fail))
     refine wpQuiet_nil ?_
     intro _ hw'
     obtain ⟨nq, hw''⟩ := hw'
     subst hw''
     have hl8 : (w'.drewN nq).cell? ⟨g, off + op2.length, none⟩ = some (.int .u8 123) := hl9
     clear hl9
     obtain ⟨s2, hs2⟩ : ∃ q, u.tail = q := ⟨_, rfl⟩
     have HS2L : Hid (s2.length + 1 ≤ u.length) := hid (by rw [← hs2, List.length_tail]; have := HUL.out; omega)
     rw [hs2] at HA2 hextu
     clear hs2
     have HG : Hid (GramS w b .name (true :: op2) d s2 (.slice (some ⟨g, off, none⟩) (op2.length + 1) cap) (w'.drewN nq)) := hid ⟨HA2.out, HS.out.wv.below (drewN_b _ nq), HS.out.be.trans ((drewN_b _ nq).mono HS.out.be.size), by have := HSL.out; have := HS2L.out; simp only [List.length_cons]; omega, hdl, fun e => by cases e⟩
     have HLT : Hid (gMu .name s2 < gMu .behind s) := hid (by have := HMU.out; have := HSL.out; have := HS2L.out; simp only [gMu] at *; omega)
     generalize w'.drewN nq = wd at *
     have HMU2 := hid (Nat.le_of_lt HLT.out)
     go_wp2_with fail
     refine wp_label ?_
     clear hul1 hul0 hij hue hdl hEb h44b h44c HSL HSK HUL HA2
     go_wp2_with fail
     refine (skip_calls wd s2).mono ?_
     rintro e w2 ⟨rfl, rfl⟩
     have hans := HG.out.ans
     rw [gramN, gN_qd] at hans
     have hle := HG.out.le
     have hdl := HG.out.dl
     have HSL : Hid ((skipS s2).length ≤ s2.length) := hid (skip_len s2)
     have HANS := hid hans
     have hrl : (skipS s2).length ≤ 100000000 := by have := HSL.out; omega
     clear hans
     generalize skipS s2 = r at *
     go_wp2_with fail
     refine (quotedP_calls wd r (by omega)).mono ?_
     rintro e w3 ⟨hb3, n, rfl, hn⟩
     have HN := hid hn
     have HB3 := hid (HG.out.be.trans (hb3.mono HG.out.be.size))
     have HBB := hid hb3
     clear hb3
     rcases hn with ⟨hn0, hq⟩ | ⟨hn0, hnl, hq⟩
     ·
      subst hn0
      have HZ : Hid (gramG .value [] 0 b = (0, false)) := hid (by rw [HANS.out, hq])
      go_wp2_with fail
      refine bodyPost_ret (v := .tuple #[.int .i64 0, .bool false]) (by simp [results, Tryz.results45, go_sem]) rfl ?_
      exact ⟨by rw [HZ.out]; rfl, HB3.out⟩
     have hnb : ((n : Int) == 0) = false := by rw [beq_eq_false_iff_ne]; omega
     have hnl2 : (n : Int) ≤ (r.length : Int) := by omega
     have hext := ext_drop r n
     have hq2 := HANS.out
     rw [hq] at hq2
     simp only at hq2
     have HQ := hid hq2
     have HUL : Hid ((skipS (r.drop n)).length ≤ (r.drop n).length ∧ (r.drop n).length + n = r.length) := hid ⟨skip_len _, by rw [List.length_drop]; omega⟩
     clear hq hq2 HANS HN
     go_wp2_with fail
     refine (skip_calls w3 (r.drop n)).mono ?_
     rintro e w4 ⟨rfl, rfl⟩
     generalize r.drop n = q at *
     generalize skipS q = u at *
     by_cases hu0 : u.length = 0
     ·
      obtain rfl : u = [] := List.length_eq_zero_iff.1 hu0
      have HZ := HQ
      clear hu0
      go_wp2_with fail
      refine bodyPost_ret (v := .tuple #[.int .i64 0, .bool false]) (by simp [results, Tryz.results45, go_sem]) rfl ?_
      exact ⟨by rw [HZ.out]; rfl, HB3.out⟩
     have hul : 0 < u.length := by omega
     have hul1 : (1 : Int) ≤ (u.length : Int) := by omega
     have hul0 : (0 : Int) < (u.length : Int) := by omega
     have huc := cons_getD hul
     have hij := byte_at u 0 hul
     have hextu : (⟨u.toArray⟩ : ByteArray).extract 1 u.length = ⟨u.tail.toArray⟩ := by rw [Lib.extract_eq]; rw [List.take_of_length_le (by simp), List.drop_one]
     have hue : u.isEmpty = false := by cases u with | nil => simp at hul | cons => rfl
     have hq3 := HQ.out
     rw [huc] at hq3
     simp only at hq3
     have HQ3 := hid hq3
     clear hq3 huc HQ hu0
     generalize u.getD 0 0 = c2 at *
     by_cases h58 : c2 = 58
     ·
      have h58b : ((c2.toNat : Int) == 58) = true := by rw [h58]; rfl
      have h58c : ((c2.toNat : Int) != 58) = false := by rw [bne, h58b]; rfl
      have hans := HQ3.out
      rw [if_pos h58] at hans
      have HG : Hid (GramS w b .value (true :: op2) d u.tail (.slice (some ⟨g, off, none⟩) (op2.length + 1) cap) w3) := hid ⟨hans, HG.out.wv.below HBB.out, HB3.out, by have := HUL.out; have := HSL.out; rw [List.length_tail]; omega, hdl, fun e => by cases e⟩
      have hlt : gMu .value u.tail < gMu .behind s := by have := HMU2.out; have := HUL.out; have := HSL.out; simp only [gMu, List.length_tail] at *; omega
      have HLT := hid hlt
      clear hans hlt h58 HQ3
      go_wp2_with fail
      refine wp_goto ?_
      exact ⟨_, HLT.out, .value, rfl, GramJ.mk HG.out⟩
     have h58b : ((c2.toNat : Int) == 58) = false := by
      rw [beq_eq_false_iff_ne]
      intro e9
      have e8 : c2.toNat = 58 := by omega
      exact h58 (UInt8.toNat_inj.1 (by rw [e8]; rfl))
     have h58c : ((c2.toNat : Int) != 58) = true := by rw [bne, h58b]; rfl
     have HZ : Hid (gramG .value [] 0 b = (0, false)) := hid (by rw [HQ3.out, if_neg h58])
     go_wp2_with fail
     refine bodyPost_ret (v := .tuple #[.int .i64 0, .bool false]) (by simp [results, Tryz.results45, go_sem]) rfl ?_
     exact ⟨by rw [HZ.out]; rfl, HB3.out⟩
    have h44b : ((c.toNat : Int) == 44) = false := by
     rw [beq_eq_false_iff_ne]
     intro e9
     have e8 : c.toNat = 44 := by omega
     exact h44 (UInt8.toNat_inj.1 (by rw [e8]; rfl))
    have h44c : ((c.toNat : Int) != 44) = true := by rw [bne, h44b]; rfl
    have hans := HA.out
    rw [if_neg h44] at hans
    have HZ := hid hans
    clear hans h44 HA
    go_wp2_with fail
    refine wp_region_quiet_fast (by kernel_rfl) (by kernel_rfl) ?_
    repeat (go_big_quiet_step (fail))
    refine wpQuiet_nil ?_
    intro _ hw'
    obtain ⟨nq, hw''⟩ := hw'
    subst hw''
    go_wp2_with fail
    refine bodyPost_ret (v := .tuple #[.int .i64 0, .bool false]) (by simp [results, Tryz.results45, go_sem]) rfl ?_
    exact ⟨by rw [HZ.out]; rfl, (HS.out.be.trans ((drewN_b _ nq).mono HS.out.be.size))⟩
   | false =>
    have hl9 : w'.cell? ⟨g, off + op2.length, none⟩ = some (.int .u8 91) := hlast
    clear hlast
    by_cases hE : c = 93
    ·
     have hEb : ((c.toNat : Int) == 93) = true := by rw [hE]; rfl
     have hans := HQ3.out
     rw [if_pos (show c = endB false from hE)] at hans
     have HA := hid hans
     clear hans hE HQ3
     go_wp2_with fail
     refine wp_region_quiet_fast (by kernel_rfl) (by kernel_rfl) ?_
     repeat (go_big_quiet_step (fail))
     refine wpQuiet_nil ?_
     intro _ hw'
     obtain ⟨nq, hw''⟩ := hw'
     subst hw''
     have HG : Hid (GramS w b .close (false :: op2) d u (.slice (some ⟨g, off, none⟩) (op2.length + 1) cap) (w'.drewN nq)) := hid ⟨HA.out, HS.out.wv.below (drewN_b _ nq), HS.out.be.trans ((drewN_b _ nq).mono HS.out.be.size), by have := HSL.out; simp only [List.length_cons]; omega, hdl, fun _ => ⟨by simp, fun e => by have := HUL.out; rw [e] at this; simp at this⟩⟩
     have hlt : gMu .close u < gMu .behind s := by have := HMU.out; have := HSL.out; simp only [gMu] at *; omega
     have HLT := hid hlt
     clear hlt
     go_wp2_with fail
     refine wp_goto ?_
     exact ⟨_, HLT.out, .close, rfl, GramJ.mk HG.out⟩
    have hEb : ((c.toNat : Int) == 93) = false := by
     rw [beq_eq_false_iff_ne]
     intro e9
     have e8 : c.toNat = 93 := by omega
     exact hE (UInt8.toNat_inj.1 (by rw [e8]; rfl))
    have hans := HQ3.out
    rw [if_neg (show ¬ c = endB false from hE)] at hans
    have HA := hid hans
    clear hans hE HQ3
    by_cases h44 : c = 44
    ·
     have h44b : ((c.toNat : Int) == 44) = true := by rw [h44]; rfl
     have h44c : ((c.toNat : Int) != 44) = false := by rw [bne, h44b]; rfl
     have hans := HA.out
     rw [if_pos h44] at hans
     have HA2 := hid hans
     clear hans h44 HA
     go_wp2_with fail
     refine wp_region_quiet_fast (by kernel_rfl) (by kernel_rfl) ?_
     repeat (go_big_quiet_step (fail))
     refine wpQuiet_nil ?_
     intro _ hw'
     obtain ⟨nq, hw''⟩ := hw'
     subst hw''
     have hl8 : (w'.drewN nq).cell? ⟨g, off + op2.length, none⟩ = some (.int .u8 91) := hl9
     clear hl9
     obtain ⟨s2, hs2⟩ : ∃ q, u.tail = q := ⟨_, rfl⟩
     have HS2L : Hid (s2.length + 1 ≤ u.length) := hid (by rw [← hs2, List.length_tail]; have := HUL.out; omega)
     rw [hs2] at HA2 hextu
     clear hs2
     have HG : Hid (GramS w b .value (false :: op2) d s2 (.slice (some ⟨g, off, none⟩) (op2.length + 1) cap) (w'.drewN nq)) := hid ⟨HA2.out, HS.out.wv.below (drewN_b _ nq), HS.out.be.trans ((drewN_b _ nq).mono HS.out.be.size), by have := HSL.out; have := HS2L.out; simp only [List.length_cons]; omega, hdl, fun e => by cases e⟩
     have HLT : Hid (gMu .value s2 < gMu .behind s) := hid (by have := HMU.out; have := HSL.out; have := HS2L.out; simp only [gMu] at *; omega)
     generalize w'.drewN nq = wd at *
     go_wp2_with fail
     refine wp_goto ?_
     exact ⟨_, HLT.out, .value, rfl, GramJ.mk HG.out⟩
    have h44b : ((c.toNat : Int) == 44) = false := by
     rw [beq_eq_false_iff_ne]
     intro e9
     have e8 : c.toNat = 44 := by omega
     exact h44 (UInt8.toNat_inj.1 (by rw [e8]; rfl))
    have h44c : ((c.toNat : Int) != 44) = true := by rw [bne, h44b]; rfl
    have hans := HA.out
    rw [if_neg h44] at hans
    have HZ := hid hans
    clear hans h44 HA
    go_wp2_with fail
    refine wp_region_quiet_fast (by kernel_rfl) (by kernel_rfl) ?_
    repeat (go_big_quiet_step (fail))
    refine wpQuiet_nil ?_
    intro _ hw'
    obtain ⟨nq, hw''⟩ := hw'
    subst hw''
    go_wp2_with fail
    refine bodyPost_ret (v := .tuple #[.int .i64 0, .bool false]) (by simp [results, Tryz.results45, go_sem]) rfl ?_
    exact ⟨by rw [HZ.out]; rfl, (HS.out.be.trans ((drewN_b _ nq).mono HS.out.be.size))⟩
 | name =>
  refine ⟨_, rfl, ?_⟩
  obtain ⟨f, op, d, s, v, rfl, rfl, hS⟩ := hJ
  have HS := hid hS
  clear hS
  have HMU : Hid (gMu .name s ≤ gMu .name s) := hid (Nat.le_refl _)
  go_wp2_with fail
  refine (skip_calls w' s).mono ?_
  rintro e w2 ⟨rfl, rfl⟩
  have hans := HS.out.ans
  rw [gramN, gN_qd] at hans
  have hle := HS.out.le
  have hdl := HS.out.dl
  have HSL : Hid ((skipS s).length ≤ s.length) := hid (skip_len s)
  have HANS := hid hans
  have hrl : (skipS s).length ≤ 100000000 := by have := HSL.out; omega
  clear hans
  generalize skipS s = r at *
  go_wp2_with fail
  refine (quotedP_calls w' r (by omega)).mono ?_
  rintro e w3 ⟨hb3, n, rfl, hn⟩
  have HN := hid hn
  have HB3 := hid (HS.out.be.trans (hb3.mono HS.out.be.size))
  have HBB := hid hb3
  clear hb3
  rcases hn with ⟨hn0, hq⟩ | ⟨hn0, hnl, hq⟩
  ·
   subst hn0
   have HZ : Hid (gramG .value [] 0 b = (0, false)) := hid (by rw [HANS.out, hq])
   go_wp2_with fail
   refine bodyPost_ret (v := .tuple #[.int .i64 0, .bool false]) (by simp [results, Tryz.results45, go_sem]) rfl ?_
   exact ⟨by rw [HZ.out]; rfl, HB3.out⟩
  have hnb : ((n : Int) == 0) = false := by rw [beq_eq_false_iff_ne]; omega
  have hnl2 : (n : Int) ≤ (r.length : Int) := by omega
  have hext := ext_drop r n
  have hq2 := HANS.out
  rw [hq] at hq2
  simp only at hq2
  have HQ := hid hq2
  have HUL : Hid ((skipS (r.drop n)).length ≤ (r.drop n).length ∧ (r.drop n).length + n = r.length) := hid ⟨skip_len _, by rw [List.length_drop]; omega⟩
  clear hq hq2 HANS HN
  go_wp2_with fail
  refine (skip_calls w3 (r.drop n)).mono ?_
  rintro e w4 ⟨rfl, rfl⟩
  generalize r.drop n = q at *
  generalize skipS q = u at *
  by_cases hu0 : u.length = 0
  ·
   obtain rfl : u = [] := List.length_eq_zero_iff.1 hu0
   have HZ := HQ
   clear hu0
   go_wp2_with fail
   refine bodyPost_ret (v := .tuple #[.int .i64 0, .bool false]) (by simp [results, Tryz.results45, go_sem]) rfl ?_
   exact ⟨by rw [HZ.out]; rfl, HB3.out⟩
  have hul : 0 < u.length := by omega
  have hul1 : (1 : Int) ≤ (u.length : Int) := by omega
  have hul0 : (0 : Int) < (u.length : Int) := by omega
  have huc := cons_getD hul
  have hij := byte_at u 0 hul
  have hextu : (⟨u.toArray⟩ : ByteArray).extract 1 u.length = ⟨u.tail.toArray⟩ := by rw [Lib.extract_eq]; rw [List.take_of_length_le (by simp), List.drop_one]
  have hue : u.isEmpty = false := by cases u with | nil => simp at hul | cons => rfl
  have hq3 := HQ.out
  rw [huc] at hq3
  simp only at hq3
  have HQ3 := hid hq3
  clear hq3 huc HQ hu0
  generalize u.getD 0 0 = c2 at *
  by_cases h58 : c2 = 58
  ·
   have h58b : ((c2.toNat : Int) == 58) = true := by rw [h58]; rfl
   have h58c : ((c2.toNat : Int) != 58) = false := by rw [bne, h58b]; rfl
   have hans := HQ3.out
   rw [if_pos h58] at hans
   have HG : Hid (GramS w b .value op d u.tail v w3) := hid ⟨hans, HS.out.wv.below HBB.out, HB3.out, by have := HUL.out; have := HSL.out; rw [List.length_tail]; omega, hdl, fun e => by cases e⟩
   have hlt : gMu .value u.tail < gMu .name s := by have := HMU.out; have := HUL.out; have := HSL.out; simp only [gMu, List.length_tail] at *; omega
   have HLT := hid hlt
   clear hans hlt h58 HQ3
   go_wp2_with fail
   refine wp_goto ?_
   exact ⟨_, HLT.out, .value, rfl, GramJ.mk HG.out⟩
  have h58b : ((c2.toNat : Int) == 58) = false := by
   rw [beq_eq_false_iff_ne]
   intro e9
   have e8 : c2.toNat = 58 := by omega
   exact h58 (UInt8.toNat_inj.1 (by rw [e8]; rfl))
  have h58c : ((c2.toNat : Int) != 58) = true := by rw [bne, h58b]; rfl
  have HZ : Hid (gramG .value [] 0 b = (0, false)) := hid (by rw [HQ3.out, if_neg h58])
  go_wp2_with fail
  refine bodyPost_ret (v := .tuple #[.int .i64 0, .bool false]) (by simp [results, Tryz.results45, go_sem]) rfl ?_
  exact ⟨by rw [HZ.out]; rfl, HB3.out⟩
 | close =>
  refine ⟨_, rfl, ?_⟩
  obtain ⟨f, op, d, s, v, rfl, rfl, hS⟩ := hJ
  have HS := hid hS
  clear hS
  have HMU : Hid (gMu .close s ≤ gMu .close s) := hid (Nat.le_refl _)
  obtain ⟨hop, hsn⟩ := HS.out.ne rfl
  obtain ⟨ob, op2, rfl⟩ : ∃ o q, op = o :: q := by
   cases op with
   | nil => exact absurd rfl hop
   | cons o q => exact ⟨o, q, rfl⟩
  rcases HS.out.wv with ⟨_, h0⟩ | ⟨g, off, cap, hv, hg1, hg2, hcl, hcm, hcc, hcs, hcf⟩
  ·exact absurd h0 (by rw [opB_cons]; simp)
  rw [opB_len, List.length_cons] at hv hcl
  subst hv
  have hcap : (op2.length : Int) + 1 ≤ (cap : Int) := by omega
  have hopl : op2.length + 1 + s.length ≤ b.length := by have := HS.out.le; simpa using this
  have hlast := hcc op2.length (by rw [opB_len]; simp)
  rw [show (opB (ob :: op2)).getD op2.length 0 = (if ob then 123 else 91) from by rw [opB_cons, List.getD_eq_getElem?_getD, List.getElem?_append_right (by rw [opB_len]; exact Nat.le_refl _), opB_len, Nat.sub_self]; rfl] at hlast
  have HLAST := hid hlast
  clear hcc hcs hcf hlast hg1 hg2 hcm hcl
  have hsl : 0 < s.length := List.length_pos_iff.2 hsn
  have hsl1 : (1 : Int) ≤ (s.length : Int) := by omega
  have hext : (⟨s.toArray⟩ : ByteArray).extract 1 s.length = ⟨s.tail.toArray⟩ := by rw [Lib.extract_eq]; rw [List.take_of_length_le (by simp), List.drop_one]
  have HW2 : Hid (WaitV w' w.heap.size (.slice (some ⟨g, off, none⟩) op2.length cap) (opB op2)) := by
   have h := HS.out.wv.front op2.length (by rw [opB_len]; simp)
   rw [opB_cons, List.take_left' (opB_len op2)] at h
   exact hid h
  have hans := HS.out.ans
  rw [gramC] at hans
  unfold gC at hans
  rw [show s = s.head hsn :: s.tail from (List.cons_head_tail hsn).symm] at hans
  simp only [List.tail_cons] at hans
  have HG : Hid (GramS w b .behind op2 d s.tail (.slice (some ⟨g, off, none⟩) op2.length cap) w') := hid ⟨hans, HW2.out, HS.out.be, by rw [List.length_tail]; omega, HS.out.dl, fun e => by cases e⟩
  have hlt : gMu .behind s.tail < gMu .close s := by simp only [gMu, List.length_tail]; omega
  have HLT := hid hlt
  clear hans hlt HW2 HLAST
  go_wp2_with fail
  refine wp_goto ?_
  exact ⟨_, HLT.out, .behind, rfl, GramJ.mk HG.out⟩
end Go.Proofs.YtfclfaidmipjpaaGreatDoor
