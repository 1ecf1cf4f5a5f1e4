/- Texts of this claim, joined: Reg, JsB, JsU, Shelf, Jr1, Jr2. -/
import Derived.Test.YtfclfaidmipjpaaGreatDoorCo03
namespace Go.Proofs.YtfclfaidmipjpaaGreatDoor
set_option maxRecDepth 100000
set_option maxHeartbeats 20000000
open Go.Lib (hid)
variable {P : Program} {ops : Array Oper} {Q : Exit → Act → World → Prop} {md : Region.Mode} {S : World → Prop}
theorem held_skip {i : Nat} {oi : Oper} {rest : List Oper} {fuel : Nat} {listed : Array Bool} {a : Act} {w : World} (hi : ops.toList.drop i = oi :: rest)
  (hs : Region.noSelect ops = true) (hf : Region.free md ops listed i = true) (hr : (Region.ready md ops listed).contains i = true)
  (hQ : ∀ c a w, Q (.panic c) (a.put oi.dst undef) w → Q (.panic c) a w) (hw : Region.wanted oi (yielded ops a.tmps) = false) (hS : S w)
  (h : wpAnyH P md ops Q S fuel (listed.setIfInBounds i true) (a.put oi.dst undef) w) : wpAnyH P md ops Q S (fuel + 1) listed a w :=
 wpAnyH_take (op_at hi) hs hf hr hQ (.inr ⟨hw, rfl⟩) hS h
open Go.RowKit
theorem bytes_app (a b : List UInt8) : ((⟨a.toArray⟩ : ByteArray) ++ ⟨b.toArray⟩) = ⟨(a ++ b).toArray⟩ := bytes_eq (by simp [ByteArray.data_append])
def leadS (c : Nat) : Option (Nat × Nat × Nat) :=
 if c < 192 then none else if c < 224 then some (2, c - 192, 128) else if c < 240 then some (3, c - 224, 2048) else if c < 248 then some (4, c - 240, 65536) else none
def contS : Nat → List UInt8 → Nat → Option Nat
 | 0, _, x => some x
 | _ + 1, [], _ => none
 | n + 1, c :: t, x => if 128 ≤ c.toNat ∧ c.toNat < 192 then contS n t (64 * x + (c.toNat - 128)) else none
def farS (least x : Nat) : Bool := decide (x < least) || decide (1114111 < x) || (decide (55296 ≤ x) && decide (x < 57344))
def letterS : List UInt8 → Nat × Nat
 | [] => (0, 0)
 | c :: t => if c.toNat < 128 then (1, c.toNat) else match leadS c.toNat with
  | none => (0, 0)
  | some (n, x, least) => match contS (n - 1) t x with
   | none => (0, 0)
   | some y => if farS least y then (0, 0) else (n, y)
theorem decodeL_eq (c : UInt8) (t : List UInt8) : Lib.decodeL (c :: t) = Lib.decodeN (t.length + 1) c.toNat (t.getD 0 0).toNat (t.getD 1 0).toNat (t.getD 2 0).toNat := by
 have g : ∀ (l : List UInt8) (k : Nat), (⟨l.toArray⟩ : ByteArray).get! k = l.getD k 0 := by
  intro l k
  simp [ByteArray.get!, List.getD_eq_getElem?_getD]
  rfl
 unfold Lib.decodeL
 rw [Lib.decode_at, g, g, g, g]
 simp [ByteArray.size]
def outS (p : Nat × Nat) : Nat × Nat := if p.1 = 65533 ∧ p.2 = 1 then (0, 0) else (p.2, p.1)
theorem outS_two (x n : Nat) (h : n ≠ 1) : outS (x, n) = (n, x) := if_neg (fun h1 => h h1.2)
theorem letterS_decode (c : UInt8) (t : List UInt8) : letterS (c :: t) = outS (Lib.decodeL (c :: t)) := by
 rw [decodeL_eq]
 have hc := c.toNat_lt
 simp only [letterS]
 generalize c.toNat = x at *
 unfold Lib.decodeN
 by_cases h1 : x < 128
 ·rw [if_pos h1, if_pos h1]; exact (if_neg (by simp only; omega)).symm
 rw [if_neg h1, if_neg h1]
 by_cases h2 : x < 192
 ·have : leadS x = none := by simp [leadS, h2]
  rw [this, if_neg (by omega), if_neg (by omega), if_neg (by omega)]; rfl
 by_cases h3 : x < 224
 ·have : leadS x = some (2, x - 192, 128) := by simp [leadS, h2, h3]
  rw [this]
  rcases t with _ | ⟨b1, t⟩
  ·simp only [List.length_nil]
   rw [if_neg (by omega), if_neg (by omega), if_neg (by omega)]; rfl
  have hb := b1.toNat_lt
  simp only [contS, List.getD_cons_zero, List.length_cons]
  generalize b1.toNat = y at *
  by_cases hy : 128 ≤ y ∧ y < 192
  ·rw [if_pos hy, if_pos (show x / 32 = 6 ∧ 1 < t.length + 1 + 1 ∧ y / 64 = 2 by omega)]
   simp only
   have e : 64 * (x - 192) + (y - 128) = x % 32 * 64 + y % 64 := by omega
   rw [e]
   by_cases hh : x % 32 * 64 + y % 64 ≥ 128
   ·rw [if_pos hh, outS_two _ _ (by omega), if_neg (by simp [farS]; omega)]
   rw [if_neg hh, if_pos (by simp [farS]; omega)]; rfl
  rw [if_neg hy, if_neg (by omega), if_neg (by omega), if_neg (by omega)]; rfl
 by_cases h4 : x < 240
 ·have : leadS x = some (3, x - 224, 2048) := by simp [leadS, h2, h3, h4]
  rw [this, if_neg (by omega)]
  rcases t with _ | ⟨b1, _ | ⟨b2, t⟩⟩
  ·simp only [List.length_nil]
   rw [if_neg (by omega), if_neg (by omega)]; rfl
  ·simp only [contS, List.length_cons, List.length_nil]
   rw [if_neg (show ¬ (x / 16 = 14 ∧ _ ∧ 2 < 0 + 1 + 1 ∧ _) by omega), if_neg (show ¬ (x / 8 = 30 ∧ _) by omega)]
   split
   ·rfl
   rename_i h; split at h <;> simp at h
  have hb := b1.toNat_lt
  have hb2 := b2.toNat_lt
  simp only [contS, List.getD_cons_zero, List.getD_cons_succ, List.length_cons]
  generalize b1.toNat = y at *
  generalize b2.toNat = z at *
  by_cases hy : 128 ≤ y ∧ y < 192
  ·by_cases hz : 128 ≤ z ∧ z < 192
   ·rw [if_pos hy, if_pos hz, if_pos (show x / 16 = 14 ∧ (1 < t.length + 1 + 1 + 1 ∧ y / 64 = 2) ∧ 2 < t.length + 1 + 1 + 1 ∧ z / 64 = 2 by omega)]
    simp only
    have e : 64 * (64 * (x - 224) + (y - 128)) + (z - 128) = x % 16 * 4096 + y % 64 * 64 + z % 64 := by omega
    rw [e]
    by_cases hh : x % 16 * 4096 + y % 64 * 64 + z % 64 ≥ 2048 ∧ (x % 16 * 4096 + y % 64 * 64 + z % 64 < 55296 ∨ (57344 ≤ x % 16 * 4096 + y % 64 * 64 + z % 64 ∧ x % 16 * 4096 + y % 64 * 64 + z % 64 ≤ 1114111))
    ·rw [if_pos hh, outS_two _ _ (by omega), if_neg (by simp [farS]; omega)]
    rw [if_neg hh, if_pos (by simp [farS]; omega)]; rfl
   rw [if_pos hy, if_neg hz, if_neg (show ¬ (x / 16 = 14 ∧ _ ∧ 2 < t.length + 1 + 1 + 1 ∧ z / 64 = 2) by omega), if_neg (by omega)]; rfl
  rw [if_neg hy, if_neg (show ¬ (x / 16 = 14 ∧ (_ ∧ y / 64 = 2) ∧ _) by omega), if_neg (by omega)]; rfl
 by_cases h5 : x < 248
 ·have : leadS x = some (4, x - 240, 65536) := by simp [leadS, h2, h3, h4, h5]
  rw [this, if_neg (by omega), if_neg (by omega)]
  rcases t with _ | ⟨b1, _ | ⟨b2, _ | ⟨b3, t⟩⟩⟩
  ·simp only [List.length_nil]
   rw [if_neg (by omega)]; rfl
  ·simp only [contS, List.length_cons, List.length_nil]
   rw [if_neg (show ¬ (x / 8 = 30 ∧ _ ∧ (2 < 0 + 1 + 1 ∧ _) ∧ _) by omega)]
   split
   ·rfl
   rename_i h; split at h <;> simp at h
  ·simp only [contS, List.length_cons, List.length_nil]
   rw [if_neg (show ¬ (x / 8 = 30 ∧ _ ∧ _ ∧ 3 < 0 + 1 + 1 + 1 ∧ _) by omega)]
   split
   ·rfl
   rename_i h; split at h
   ·split at h <;> simp at h
   simp at h
  have hb := b1.toNat_lt
  have hb2 := b2.toNat_lt
  have hb3 := b3.toNat_lt
  simp only [contS, List.getD_cons_zero, List.getD_cons_succ, List.length_cons]
  generalize b1.toNat = y at *
  generalize b2.toNat = z at *
  generalize b3.toNat = v at *
  by_cases hy : 128 ≤ y ∧ y < 192
  ·by_cases hz : 128 ≤ z ∧ z < 192
   ·by_cases hv : 128 ≤ v ∧ v < 192
    ·rw [if_pos hy, if_pos hz, if_pos hv, if_pos (show x / 8 = 30 ∧ (1 < t.length + 1 + 1 + 1 + 1 ∧ y / 64 = 2) ∧ (2 < t.length + 1 + 1 + 1 + 1 ∧ z / 64 = 2) ∧ 3 < t.length + 1 + 1 + 1 + 1 ∧ v / 64 = 2 by omega)]
     simp only
     have e : 64 * (64 * (64 * (x - 240) + (y - 128)) + (z - 128)) + (v - 128) = x % 8 * 262144 + y % 64 * 4096 + z % 64 * 64 + v % 64 := by omega
     rw [e]
     by_cases hh : x % 8 * 262144 + y % 64 * 4096 + z % 64 * 64 + v % 64 ≥ 65536 ∧ (x % 8 * 262144 + y % 64 * 4096 + z % 64 * 64 + v % 64 < 55296 ∨ (57344 ≤ x % 8 * 262144 + y % 64 * 4096 + z % 64 * 64 + v % 64 ∧ x % 8 * 262144 + y % 64 * 4096 + z % 64 * 64 + v % 64 ≤ 1114111))
     ·rw [if_pos hh, outS_two _ _ (by omega), if_neg (by simp [farS]; omega)]
     rw [if_neg hh, if_pos (by simp [farS]; omega)]; rfl
    rw [if_pos hy, if_pos hz, if_neg hv, if_neg (show ¬ (x / 8 = 30 ∧ _ ∧ _ ∧ 3 < t.length + 1 + 1 + 1 + 1 ∧ v / 64 = 2) by omega)]; rfl
   rw [if_pos hy, if_neg hz, if_neg (show ¬ (x / 8 = 30 ∧ _ ∧ (2 < t.length + 1 + 1 + 1 + 1 ∧ z / 64 = 2) ∧ _) by omega)]; rfl
  rw [if_neg hy, if_neg (show ¬ (x / 8 = 30 ∧ (1 < t.length + 1 + 1 + 1 + 1 ∧ y / 64 = 2) ∧ _) by omega)]; rfl
 have : leadS x = none := by simp [leadS, h2, h3, h4, h5]
 rw [this, if_neg (by omega), if_neg (by omega), if_neg (by omega)]; rfl
end Go.Proofs.YtfclfaidmipjpaaGreatDoor
namespace Go.Proofs
open Go.Shelf
def Tryz.laysC174_ren : Go.Shelf.Ren := ⟨fun | 174 => 109 | 247 => 150 | 245 => 135 | 287 => 193 | 279 => 170 | 280 => 171 | 281 => 172 | 282 => 173 | 321 => 225 | 322 => 226 | 316 => 212 | 171 => 61 | 205 => 213 | 243 => 98 | 246 => 138 | 283 => 185 | 284 => 186 | 285 => 187 | 286 => 188 | 129 => 184 | 317 => 220 | 318 => 221 | 319 => 222 | 320 => 223 | 337 => 240 | 338 => 241 | n => n, fun | 9 => 9 | 3 => 3 | 2 => 2 | 75 => 135 | 85 => 149 | 4 => 4 | 167 => 204 | 5 => 5 | 53 => 151 | 175 => 226 | 46 => 104 | 168 => 205 | 37 => 22 | 0 => 0 | 210 => 253 | 21 => 21 | 127 => 183 | 145 => 280 | 143 => 278 | 171 => 217 | 173 => 219 | 212 => 262 | 51 => 119 | 20 => 20 | 213 => 263 | 232 => 286 | 233 => 287 | 80 => 110 | n => n, fun | 15 => 3 | 16 => 4 | 17 => 5 | 18 => 6 | 19 => 7 | n => n⟩
theorem Tryz.laysC174 : Go.Proofs.LaysC.n174 Tryz.prog Tryz.laysC174_ren := {
 mixed := by kernel_rfl
 f129 := Tryz.func184.trans (congrArg some (by kernel_rfl))
 f171 := Tryz.func61.trans (congrArg some (by kernel_rfl))
 f174 := Tryz.func109.trans (congrArg some (by kernel_rfl))
 f205 := Tryz.func213.trans (congrArg some (by kernel_rfl))
 f243 := Tryz.func98.trans (congrArg some (by kernel_rfl))
 f245 := Tryz.func135.trans (congrArg some (by kernel_rfl))
 f246 := Tryz.func138.trans (congrArg some (by kernel_rfl))
 f247 := Tryz.func150.trans (congrArg some (by kernel_rfl))
 f279 := Tryz.func170.trans (congrArg some (by kernel_rfl))
 f280 := Tryz.func171.trans (congrArg some (by kernel_rfl))
 f281 := Tryz.func172.trans (congrArg some (by kernel_rfl))
 f282 := Tryz.func173.trans (congrArg some (by kernel_rfl))
 f283 := Tryz.func185.trans (congrArg some (by kernel_rfl))
 f284 := Tryz.func186.trans (congrArg some (by kernel_rfl))
 f285 := Tryz.func187.trans (congrArg some (by kernel_rfl))
 f286 := Tryz.func188.trans (congrArg some (by kernel_rfl))
 f287 := Tryz.func193.trans (congrArg some (by kernel_rfl))
 f316 := Tryz.func212.trans (congrArg some (by kernel_rfl))
 f317 := Tryz.func220.trans (congrArg some (by kernel_rfl))
 f318 := Tryz.func221.trans (congrArg some (by kernel_rfl))
 f319 := Tryz.func222.trans (congrArg some (by kernel_rfl))
 f320 := Tryz.func223.trans (congrArg some (by kernel_rfl))
 f321 := Tryz.func225.trans (congrArg some (by kernel_rfl))
 f322 := Tryz.func226.trans (congrArg some (by kernel_rfl))
 f337 := Tryz.func240.trans (congrArg some (by kernel_rfl))
 f338 := Tryz.func241.trans (congrArg some (by kernel_rfl))
 t0 := Tryz.underlying0
 a0 := Tryz.isAgg0
 z0 := Tryz.sizeOf0
 v0 := Tryz.zeroValue0
 t2 := Tryz.underlying2
 a2 := Tryz.isAgg2
 z2 := Tryz.sizeOf2
 v2 := Tryz.zeroValue2
 t3 := Tryz.underlying3
 a3 := Tryz.isAgg3
 z3 := Tryz.sizeOf3
 v3 := Tryz.zeroValue3
 t4 := Tryz.underlying4
 a4 := Tryz.isAgg4
 z4 := Tryz.sizeOf4
 v4 := Tryz.zeroValue4
 t5 := Tryz.underlying5
 a5 := Tryz.isAgg5
 z5 := Tryz.sizeOf5
 v5 := Tryz.zeroValue5
 t9 := Tryz.underlying9
 a9 := Tryz.isAgg9
 z9 := Tryz.sizeOf9
 v9 := Tryz.zeroValue9
 t20 := Tryz.underlying20
 a20 := Tryz.isAgg20
 z20 := Tryz.sizeOf20
 v20 := Tryz.zeroValue20
 t21 := Tryz.underlying21
 a21 := Tryz.isAgg21
 z21 := Tryz.sizeOf21
 v21 := Tryz.zeroValue21
 t37 := Tryz.underlying22
 a37 := Tryz.isAgg22
 z37 := Tryz.sizeOf22
 v37 := Tryz.zeroValue22
 t46 := Tryz.underlying104
 a46 := Tryz.isAgg104
 z46 := Tryz.sizeOf104
 v46 := Tryz.zeroValue104
 t51 := Tryz.underlying119
 a51 := Tryz.isAgg119
 z51 := Tryz.sizeOf119
 v51 := Tryz.zeroValue119
 t53 := Tryz.underlying151
 a53 := Tryz.isAgg151
 z53 := Tryz.sizeOf151
 v53 := Tryz.zeroValue151
 t75 := Tryz.underlying135
 a75 := Tryz.isAgg135
 z75 := Tryz.sizeOf135
 v75 := Tryz.zeroValue135
 t85 := Tryz.underlying149
 a85 := Tryz.isAgg149
 z85 := Tryz.sizeOf149
 v85 := Tryz.zeroValue149
 t127 := Tryz.underlying183
 a127 := Tryz.isAgg183
 z127 := Tryz.sizeOf183
 v127 := Tryz.zeroValue183
 t143 := Tryz.underlying278
 a143 := Tryz.isAgg278
 z143 := Tryz.sizeOf278
 v143 := Tryz.zeroValue278
 t145 := Tryz.underlying280
 a145 := Tryz.isAgg280
 z145 := Tryz.sizeOf280
 v145 := Tryz.zeroValue280
 t167 := Tryz.underlying204
 a167 := Tryz.isAgg204
 z167 := Tryz.sizeOf204
 v167 := Tryz.zeroValue204
 t168 := Tryz.underlying205
 a168 := Tryz.isAgg205
 z168 := Tryz.sizeOf205
 v168 := Tryz.zeroValue205
 t171 := Tryz.underlying217
 a171 := Tryz.isAgg217
 z171 := Tryz.sizeOf217
 v171 := Tryz.zeroValue217
 t173 := Tryz.underlying219
 a173 := Tryz.isAgg219
 z173 := Tryz.sizeOf219
 v173 := Tryz.zeroValue219
 t175 := Tryz.underlying226
 a175 := Tryz.isAgg226
 z175 := Tryz.sizeOf226
 v175 := Tryz.zeroValue226
 t210 := Tryz.underlying253
 a210 := Tryz.isAgg253
 z210 := Tryz.sizeOf253
 v210 := Tryz.zeroValue253
 t212 := Tryz.underlying262
 a212 := Tryz.isAgg262
 z212 := Tryz.sizeOf262
 v212 := Tryz.zeroValue262
 t213 := Tryz.underlying263
 a213 := Tryz.isAgg263
 z213 := Tryz.sizeOf263
 t232 := Tryz.underlying286
 a232 := Tryz.isAgg286
 z232 := Tryz.sizeOf286
 v232 := Tryz.zeroValue286
 t233 := Tryz.underlying287
 a233 := Tryz.isAgg287
 z233 := Tryz.sizeOf287
 v233 := Tryz.zeroValue287
 g15 := by kernel_rfl
 g16 := by kernel_rfl
 g17 := by kernel_rfl
 g18 := by kernel_rfl
 g19 := by kernel_rfl
 t80 := Tryz.underlying110
 a80 := Tryz.isAgg110
 z80 := Tryz.sizeOf110
 v80 := Tryz.zeroValue110
 i0 := by kernel_rfl
 i2 := by kernel_rfl
 i3 := by kernel_rfl
 i4 := by kernel_rfl
 i5 := by kernel_rfl
 i9 := by kernel_rfl
 i20 := by kernel_rfl
 i21 := by kernel_rfl
 i37 := by kernel_rfl
 i46 := by kernel_rfl
 i51 := by kernel_rfl
 i53 := by kernel_rfl
 i75 := by kernel_rfl
 i80 := by kernel_rfl
 i85 := by kernel_rfl
 i127 := by kernel_rfl
 i143 := by kernel_rfl
 i145 := by kernel_rfl
 i167 := by kernel_rfl
 i168 := by kernel_rfl
 i171 := by kernel_rfl
 i173 := by kernel_rfl
 i175 := by kernel_rfl
 i210 := by kernel_rfl
 i212 := by kernel_rfl
 i232 := by kernel_rfl
 i233 := by kernel_rfl
 m15 := by kernel_rfl
 m16 := by kernel_rfl
 m17 := by kernel_rfl
 m18 := by kernel_rfl
 m19 := by kernel_rfl
 c0 := by kernel_rfl
 c2 := by kernel_rfl
 c3 := by kernel_rfl
 c4 := by kernel_rfl
 c5 := by kernel_rfl
 c9 := by kernel_rfl
 c20 := by kernel_rfl
 c21 := by kernel_rfl
 c37 := by kernel_rfl
 c46 := by kernel_rfl
 c51 := by kernel_rfl
 c53 := by kernel_rfl
 c75 := by kernel_rfl
 c80 := by kernel_rfl
 c85 := by kernel_rfl
 c127 := by kernel_rfl
 c143 := by kernel_rfl
 c145 := by kernel_rfl
 c167 := by kernel_rfl
 c168 := by kernel_rfl
 c171 := by kernel_rfl
 c173 := by kernel_rfl
 c175 := by kernel_rfl
 c210 := by kernel_rfl
 c212 := by kernel_rfl
 c213 := by kernel_rfl
 c232 := by kernel_rfl
 c233 := by kernel_rfl }
open Go.RowKit in
theorem Tryz.strconv_ParseInt_10_at64_ok (s : ByteArray) (hmax : s.size ≤ 9223372036854775806) (v : Int) (h : Lib.parseIntB 64 s.data.toList = .ok v) (w : World) :
  Calls Tryz.prog 109 #[.string s, .int .i64 10, .int .i64 64] w fun e w' => e = .returned (.tuple #[.int .i64 v, .nilIface]) ∧ (w' = w ∨ ∃ t, w' = Lib.bytesWorld w 5 t) := Any.strconv_ParseInt_10_at64_ok Tryz.laysC174 s hmax v h w
open Go.RowKit in
theorem Tryz.strconv_ParseInt_10_at64_range_var (s : ByteArray) (hlim : s.size ≤ 281474976710656) (h : Lib.parseIntB 64 s.data.toList = .range) (tp : TypeId) (p : Value) (w : World) (hvar : w.var? Tryz.prog "strconv.ErrRange" = some #[.iface tp p]) :
  Calls Tryz.prog 109 #[.string s, .int .i64 10, .int .i64 64] w fun e w' => ∃ N, e = .returned (.tuple #[.int .i64 (Lib.intSat 64 s.data.toList), .iface 205 (.pointer (some ⟨N, 0, none⟩))]) ∧ w.heap.size ≤ N ∧ w'.heap[N]? = some (.cells #[.string ⟨#[80, 97, 114, 115, 101, 73, 110, 116]⟩, .string s, .iface tp p] 253 (0, 0)) ∧ Below w.heap.size w w' := Any.strconv_ParseInt_10_at64_range_var Tryz.laysC174 s hlim h tp p w hvar
end Go.Proofs
namespace Go.Proofs.YtfclfaidmipjpaaGreatDoor
set_option maxRecDepth 100000
set_option maxHeartbeats 20000000
open Go.Lib (hid)
open Go.RowKit
structure LetI (t : List UInt8) (n x0 k x : Nat) : Prop where
 run : contS (n - 1) t x0 = contS (n - 1 - k) (t.drop k) x
 le : k ≤ n - 1
 bd : (k = 0 ∧ x ≤ 31) ∨ (k = 1 ∧ x ≤ 2047) ∨ (k = 2 ∧ x ≤ 131071) ∨ (k = 3 ∧ x ≤ 8388607)
theorem LetI.next {t : List UInt8} {n x0 k x : Nat} (h : LetI t n x0 k x) (hk : k < n - 1) (hn : n ≤ 4) (hl : k < t.length) (hc : 128 ≤ (t.getD k 0).toNat ∧ (t.getD k 0).toNat < 192) : LetI t n x0 (k + 1) (64 * x + ((t.getD k 0).toNat - 128)) := by
 refine ⟨?_, by omega, ?_⟩
 ·rw [h.run, List.drop_eq_getElem_cons hl, show n - 1 - k = (n - 1 - (k + 1)) + 1 by omega, contS]
  have e : t[k] = t.getD k 0 := by simp [hl]
  rw [e, if_pos hc]
 have := h.bd; omega
theorem LetI.bad {t : List UInt8} {n x0 k x : Nat} (h : LetI t n x0 k x) (hk : k < n - 1) (hl : k < t.length) (hc : ¬ (128 ≤ (t.getD k 0).toNat ∧ (t.getD k 0).toNat < 192)) : contS (n - 1) t x0 = none := by
 rw [h.run, List.drop_eq_getElem_cons hl, show n - 1 - k = (n - 1 - (k + 1)) + 1 by omega, contS]
 have e : t[k] = t.getD k 0 := by simp [hl]
 rw [e, if_neg hc]
theorem LetI.done {t : List UInt8} {n x0 k x : Nat} (h : LetI t n x0 k x) (hk : k = n - 1) : contS (n - 1) t x0 = some x := by
 rw [h.run, hk, Nat.sub_self, contS]
theorem contS_short : ∀ (n : Nat) (t : List UInt8) (x : Nat), t.length < n → contS n t x = none
 | 0, t, x, h => by omega
 | n + 1, [], x, h => rfl
 | n + 1, c :: t, x, h => by
  simp only [contS]
  split
  ·exact contS_short n t _ (by simpa using h)
  rfl
def tailS (n least : Nat) (y : Option Nat) : Nat × Nat := match y with
 | none => (0, 0)
 | some y => if farS least y then (0, 0) else (n, y)
theorem letterS_lead {c : UInt8} {t : List UInt8} {n x least : Nat} (h1 : ¬ c.toNat < 128) (h : leadS c.toNat = some (n, x, least)) : letterS (c :: t) = tailS n least (contS (n - 1) t x) := by
 simp only [letterS]
 rw [if_neg h1, h]
 rfl
theorem farS_t {least x : Nat} (h : x < least ∨ 1114111 < x ∨ (55296 ≤ x ∧ x < 57344)) : farS least x = true := by
 unfold farS
 simp only [Bool.or_eq_true, Bool.and_eq_true, decide_eq_true_eq]
 omega
theorem farS_f {least x : Nat} (h : ¬ (x < least ∨ 1114111 < x ∨ (55296 ≤ x ∧ x < 57344))) : farS least x = false := by
 cases hh : farS least x with
 | false => rfl
 | true =>
  unfold farS at hh
  simp only [Bool.or_eq_true, Bool.and_eq_true, decide_eq_true_eq] at hh
  omega
theorem letter_calls (w : World) (l : List UInt8) (hl : l.length ≤ 1000000000) :
  Calls Tryz.prog 71 #[.string ⟨l.toArray⟩] w fun e w' => e = .returned (.tuple #[.int .i64 ((letterS l).1 : Int), .int .i64 ((letterS l).2 : Int)]) ∧ w = w' := by
 cases l with
 | nil =>
  go_enter Tryz.func71, Tryz.ntmps71
  go_wp2_with fail
  go_ret2
  exact ⟨rfl, rfl⟩
 | cons c t =>
  have hc0 := byte_at (c :: t) 0 (by simp)
  simp only [List.getD_cons_zero] at hc0
  have hlc : (c :: t).length = t.length + 1 := rfl
  have hcl := c.toNat_lt
  have h0 : (0 : Int) < ((c :: t).length : Int) := by omega
  have key : ∀ (n x0 least : Nat), leadS c.toNat = some (n, x0, least) → ¬ c.toNat < 128 → 2 ≤ n → n ≤ 4 → x0 ≤ 31 → least ≤ 65536 → True := fun _ _ _ _ _ _ _ _ _ => trivial
  clear key
  go_enter Tryz.func71, Tryz.ntmps71
  by_cases h1 : c.toNat < 128
  ·have HF : Hid (letterS (c :: t) = (1, c.toNat)) := by
    refine hid ?_
    simp only [letterS]
    rw [if_pos h1]
   go_wp2_with fail
   go_ret2
   rw [HF.out]
   exact ⟨rfl, rfl⟩
  --LETTER
  by_cases h2 : c.toNat < 192
  ·have HF : Hid (letterS (c :: t) = (0, 0)) := hid (by simp only [letterS]; rw [if_neg h1, show leadS c.toNat = none by simp only [leadS]; rw [if_pos h2]])
   go_wp2_with fail
   go_ret2
   rw [HF.out]
   exact ⟨rfl, rfl⟩
  by_cases h3 : c.toNat < 224
  ·
   have hL : leadS c.toNat = some (2, c.toNat - 192, 128) := by simp only [leadS]; rw [if_neg h2, if_pos h3]
   have HF := hid (letterS_lead (t := t) h1 hL)
   clear hL
   obtain ⟨x0, hx0⟩ : ∃ x0, c.toNat - 192 = x0 := ⟨_, rfl⟩
   have hx1 : x0 ≤ 31 := by omega
   have hxc : (c.toNat : Int) - 192 = (x0 : Int) := by omega
   rw [hx0] at HF
   have Hxc := hid hxc
   clear hx0 hxc
   by_cases hn : t.length + 1 < 2
   ·have HG : Hid (letterS (c :: t) = (0, 0)) := hid (by rw [HF.out, contS_short _ _ _ (by omega)]; rfl)
    have hn2 : (((c :: t).length : Nat) : Int) < 2 := by omega
    go_wp2_with fail
    go_ret2
    rw [HG.out]
    exact ⟨rfl, rfl⟩
   have hn2 : ¬ (((c :: t).length : Nat) : Int) < 2 := by omega
   go_wp2_with fail
   simp only [Hxc.out]
   have HI0 : Hid (LetI t 2 x0 0 x0) := hid ⟨rfl, by omega, .inl ⟨rfl, hx1⟩⟩
   go_loopg [6, 8] 1 (fun k s6 s8 wr => ∃ (j x : Nat), k = 2 - j ∧ 1 ≤ j ∧ j ≤ 2 ∧ s6 = .int .i64 (x : Int) ∧ s8 = .int .i64 (j : Int) ∧ LetI t 2 x0 (j - 1) x ∧ w = wr)
   case atStart => exact ⟨1, x0, rfl, Nat.le_refl _, by omega, rfl, rfl, HI0.out, rfl⟩
   obtain ⟨j, x, hk, hj1, hj, rfl, rfl, hI, rfl⟩ := hrel
   have Hk := hid hk
   have HI := hid hI
   have hxb := hI.bd
   clear hk hI
   by_cases hlt : j < 2
   ·have hlt2 : (j : Int) < 2 := by omega
    have hij := byte_at (c :: t) j (by simp; omega)
    have e : (c :: t).getD j 0 = t.getD (j - 1) 0 := by obtain ⟨m, rfl⟩ : ∃ m, j = m + 1 := ⟨j - 1, by omega⟩; simp
    rw [e] at hij
    have HN := hid (HI.out.next (by omega) (by omega) (by omega))
    have HB := hid (HI.out.bad (by omega) (by omega))
    clear e
    have hd := (t.getD (j - 1) 0).toNat_lt
    generalize t.getD (j - 1) 0 = d at *
    have hjl : j < (c :: t).length := by simp; omega
    by_cases hc : 128 ≤ d.toNat ∧ d.toNat < 192
    ·have HN2 := hid (HN.out hc)
     obtain ⟨hc1, hc2⟩ := hc
     have hx9 : x ≤ 131071 := by omega
     clear HN HB hxb
     go_wp2_with fail
     go_roundg (2 - (j + 1))
     case measure => have := Hk.out; omega
     refine ⟨j + 1, 64 * x + (d.toNat - 128), rfl, by omega, by omega, ?_, by go_num, ?_, rfl⟩
     ·exact congrArg (Value.int .i64) (by omega)
     have h9 := HN2.out; rw [show j - 1 + 1 = j + 1 - 1 by omega] at h9; exact h9
    have HG : Hid (letterS (c :: t) = (0, 0)) := hid (by rw [HF.out, HB.out hc]; rfl)
    have hcs : d.toNat < 128 ∨ 192 ≤ d.toNat := by omega
    clear HN HB hc hxb
    rcases hcs with hcs | hcs
    ·go_wp2_with fail
     go_ret2
     rw [HG.out]
     exact ⟨rfl, rfl⟩
    have hcs2 : ¬ d.toNat < 128 := by omega
    go_wp2_with fail
    go_ret2
    rw [HG.out]
    exact ⟨rfl, rfl⟩
   have hlt2 : ¬ (j : Int) < 2 := by omega
   have HD := hid (HI.out.done (by omega))
   have HG : Hid (letterS (c :: t) = if farS 128 x then (0, 0) else (2, x)) := hid (by rw [HF.out, HD.out]; rfl)
   clear HD HF hxb
   by_cases g1 : x < 128
   ·go_wp2_with fail
    go_ret2
    rw [HG.out, farS_t (by omega)]
    exact ⟨rfl, rfl⟩
   by_cases g2 : 1114111 < x
   ·go_wp2_with fail
    go_ret2
    rw [HG.out, farS_t (by omega)]
    exact ⟨rfl, rfl⟩
   by_cases g3 : 55296 ≤ x
   ·by_cases g4 : x < 57344
    ·go_wp2_with fail
     go_ret2
     rw [HG.out, farS_t (by omega)]
     exact ⟨rfl, rfl⟩
    go_wp2_with fail
    go_ret2
    rw [HG.out, farS_f (by omega)]
    exact ⟨rfl, rfl⟩
   go_wp2_with fail
   go_ret2
   rw [HG.out, farS_f (by omega)]
   exact ⟨rfl, rfl⟩
  by_cases h4 : c.toNat < 240
  ·
   have hL : leadS c.toNat = some (3, c.toNat - 224, 2048) := by simp only [leadS]; rw [if_neg h2, if_neg h3, if_pos h4]
   have HF := hid (letterS_lead (t := t) h1 hL)
   clear hL
   obtain ⟨x0, hx0⟩ : ∃ x0, c.toNat - 224 = x0 := ⟨_, rfl⟩
   have hx1 : x0 ≤ 31 := by omega
   have hxc : (c.toNat : Int) - 224 = (x0 : Int) := by omega
   rw [hx0] at HF
   have Hxc := hid hxc
   clear hx0 hxc
   by_cases hn : t.length + 1 < 3
   ·have HG : Hid (letterS (c :: t) = (0, 0)) := hid (by rw [HF.out, contS_short _ _ _ (by omega)]; rfl)
    have hn2 : (((c :: t).length : Nat) : Int) < 3 := by omega
    go_wp2_with fail
    go_ret2
    rw [HG.out]
    exact ⟨rfl, rfl⟩
   have hn2 : ¬ (((c :: t).length : Nat) : Int) < 3 := by omega
   go_wp2_with fail
   simp only [Hxc.out]
   have HI0 : Hid (LetI t 3 x0 0 x0) := hid ⟨rfl, by omega, .inl ⟨rfl, hx1⟩⟩
   go_loopg [6, 8] 2 (fun k s6 s8 wr => ∃ (j x : Nat), k = 3 - j ∧ 1 ≤ j ∧ j ≤ 3 ∧ s6 = .int .i64 (x : Int) ∧ s8 = .int .i64 (j : Int) ∧ LetI t 3 x0 (j - 1) x ∧ w = wr)
   case atStart => exact ⟨1, x0, rfl, Nat.le_refl _, by omega, rfl, rfl, HI0.out, rfl⟩
   obtain ⟨j, x, hk, hj1, hj, rfl, rfl, hI, rfl⟩ := hrel
   have Hk := hid hk
   have HI := hid hI
   have hxb := hI.bd
   clear hk hI
   by_cases hlt : j < 3
   ·have hlt2 : (j : Int) < 3 := by omega
    have hij := byte_at (c :: t) j (by simp; omega)
    have e : (c :: t).getD j 0 = t.getD (j - 1) 0 := by obtain ⟨m, rfl⟩ : ∃ m, j = m + 1 := ⟨j - 1, by omega⟩; simp
    rw [e] at hij
    have HN := hid (HI.out.next (by omega) (by omega) (by omega))
    have HB := hid (HI.out.bad (by omega) (by omega))
    clear e
    have hd := (t.getD (j - 1) 0).toNat_lt
    generalize t.getD (j - 1) 0 = d at *
    have hjl : j < (c :: t).length := by simp; omega
    by_cases hc : 128 ≤ d.toNat ∧ d.toNat < 192
    ·have HN2 := hid (HN.out hc)
     obtain ⟨hc1, hc2⟩ := hc
     have hx9 : x ≤ 131071 := by omega
     clear HN HB hxb
     go_wp2_with fail
     go_roundg (3 - (j + 1))
     case measure => have := Hk.out; omega
     refine ⟨j + 1, 64 * x + (d.toNat - 128), rfl, by omega, by omega, ?_, by go_num, ?_, rfl⟩
     ·exact congrArg (Value.int .i64) (by omega)
     have h9 := HN2.out; rw [show j - 1 + 1 = j + 1 - 1 by omega] at h9; exact h9
    have HG : Hid (letterS (c :: t) = (0, 0)) := hid (by rw [HF.out, HB.out hc]; rfl)
    have hcs : d.toNat < 128 ∨ 192 ≤ d.toNat := by omega
    clear HN HB hc hxb
    rcases hcs with hcs | hcs
    ·go_wp2_with fail
     go_ret2
     rw [HG.out]
     exact ⟨rfl, rfl⟩
    have hcs2 : ¬ d.toNat < 128 := by omega
    go_wp2_with fail
    go_ret2
    rw [HG.out]
    exact ⟨rfl, rfl⟩
   have hlt2 : ¬ (j : Int) < 3 := by omega
   have HD := hid (HI.out.done (by omega))
   have HG : Hid (letterS (c :: t) = if farS 2048 x then (0, 0) else (3, x)) := hid (by rw [HF.out, HD.out]; rfl)
   clear HD HF hxb
   by_cases g1 : x < 2048
   ·go_wp2_with fail
    go_ret2
    rw [HG.out, farS_t (by omega)]
    exact ⟨rfl, rfl⟩
   by_cases g2 : 1114111 < x
   ·go_wp2_with fail
    go_ret2
    rw [HG.out, farS_t (by omega)]
    exact ⟨rfl, rfl⟩
   by_cases g3 : 55296 ≤ x
   ·by_cases g4 : x < 57344
    ·go_wp2_with fail
     go_ret2
     rw [HG.out, farS_t (by omega)]
     exact ⟨rfl, rfl⟩
    go_wp2_with fail
    go_ret2
    rw [HG.out, farS_f (by omega)]
    exact ⟨rfl, rfl⟩
   go_wp2_with fail
   go_ret2
   rw [HG.out, farS_f (by omega)]
   exact ⟨rfl, rfl⟩
  by_cases h5 : c.toNat < 248
  ·
   have hL : leadS c.toNat = some (4, c.toNat - 240, 65536) := by simp only [leadS]; rw [if_neg h2, if_neg h3, if_neg h4, if_pos h5]
   have HF := hid (letterS_lead (t := t) h1 hL)
   clear hL
   obtain ⟨x0, hx0⟩ : ∃ x0, c.toNat - 240 = x0 := ⟨_, rfl⟩
   have hx1 : x0 ≤ 31 := by omega
   have hxc : (c.toNat : Int) - 240 = (x0 : Int) := by omega
   rw [hx0] at HF
   have Hxc := hid hxc
   clear hx0 hxc
   by_cases hn : t.length + 1 < 4
   ·have HG : Hid (letterS (c :: t) = (0, 0)) := hid (by rw [HF.out, contS_short _ _ _ (by omega)]; rfl)
    have hn2 : (((c :: t).length : Nat) : Int) < 4 := by omega
    go_wp2_with fail
    go_ret2
    rw [HG.out]
    exact ⟨rfl, rfl⟩
   have hn2 : ¬ (((c :: t).length : Nat) : Int) < 4 := by omega
   go_wp2_with fail
   simp only [Hxc.out]
   have HI0 : Hid (LetI t 4 x0 0 x0) := hid ⟨rfl, by omega, .inl ⟨rfl, hx1⟩⟩
   go_loopg [6, 8] 3 (fun k s6 s8 wr => ∃ (j x : Nat), k = 4 - j ∧ 1 ≤ j ∧ j ≤ 4 ∧ s6 = .int .i64 (x : Int) ∧ s8 = .int .i64 (j : Int) ∧ LetI t 4 x0 (j - 1) x ∧ w = wr)
   case atStart => exact ⟨1, x0, rfl, Nat.le_refl _, by omega, rfl, rfl, HI0.out, rfl⟩
   obtain ⟨j, x, hk, hj1, hj, rfl, rfl, hI, rfl⟩ := hrel
   have Hk := hid hk
   have HI := hid hI
   have hxb := hI.bd
   clear hk hI
   by_cases hlt : j < 4
   ·have hlt2 : (j : Int) < 4 := by omega
    have hij := byte_at (c :: t) j (by simp; omega)
    have e : (c :: t).getD j 0 = t.getD (j - 1) 0 := by obtain ⟨m, rfl⟩ : ∃ m, j = m + 1 := ⟨j - 1, by omega⟩; simp
    rw [e] at hij
    have HN := hid (HI.out.next (by omega) (by omega) (by omega))
    have HB := hid (HI.out.bad (by omega) (by omega))
    clear e
    have hd := (t.getD (j - 1) 0).toNat_lt
    generalize t.getD (j - 1) 0 = d at *
    have hjl : j < (c :: t).length := by simp; omega
    by_cases hc : 128 ≤ d.toNat ∧ d.toNat < 192
    ·have HN2 := hid (HN.out hc)
     obtain ⟨hc1, hc2⟩ := hc
     have hx9 : x ≤ 131071 := by omega
     clear HN HB hxb
     go_wp2_with fail
     go_roundg (4 - (j + 1))
     case measure => have := Hk.out; omega
     refine ⟨j + 1, 64 * x + (d.toNat - 128), rfl, by omega, by omega, ?_, by go_num, ?_, rfl⟩
     ·exact congrArg (Value.int .i64) (by omega)
     have h9 := HN2.out; rw [show j - 1 + 1 = j + 1 - 1 by omega] at h9; exact h9
    have HG : Hid (letterS (c :: t) = (0, 0)) := hid (by rw [HF.out, HB.out hc]; rfl)
    have hcs : d.toNat < 128 ∨ 192 ≤ d.toNat := by omega
    clear HN HB hc hxb
    rcases hcs with hcs | hcs
    ·go_wp2_with fail
     go_ret2
     rw [HG.out]
     exact ⟨rfl, rfl⟩
    have hcs2 : ¬ d.toNat < 128 := by omega
    go_wp2_with fail
    go_ret2
    rw [HG.out]
    exact ⟨rfl, rfl⟩
   have hlt2 : ¬ (j : Int) < 4 := by omega
   have HD := hid (HI.out.done (by omega))
   have HG : Hid (letterS (c :: t) = if farS 65536 x then (0, 0) else (4, x)) := hid (by rw [HF.out, HD.out]; rfl)
   clear HD HF hxb
   by_cases g1 : x < 65536
   ·go_wp2_with fail
    go_ret2
    rw [HG.out, farS_t (by omega)]
    exact ⟨rfl, rfl⟩
   by_cases g2 : 1114111 < x
   ·go_wp2_with fail
    go_ret2
    rw [HG.out, farS_t (by omega)]
    exact ⟨rfl, rfl⟩
   have g3 : 55296 ≤ x := by omega
   have g4 : ¬ x < 57344 := by omega
   go_wp2_with fail
   go_ret2
   rw [HG.out, farS_f (by omega)]
   exact ⟨rfl, rfl⟩
  have HF : Hid (letterS (c :: t) = (0, 0)) := hid (by simp only [letterS]; rw [if_neg h1, show leadS c.toNat = none by simp only [leadS]; rw [if_neg h2, if_neg h3, if_neg h4, if_neg h5]])
  go_wp2_with fail
  go_ret2
  rw [HF.out]
  exact ⟨rfl, rfl⟩
--END
open Go.RowKit
theorem letter_valid (c : UInt8) (t : List UInt8) : ((letterS (c :: t)).1 = 0 ∧ Lib.validD (c :: t) = false) ∨ (1 ≤ (letterS (c :: t)).1 ∧ (letterS (c :: t)).1 ≤ (c :: t).length ∧ Lib.validD (c :: t) = Lib.validD ((c :: t).drop (letterS (c :: t)).1)) := by
 have h := Lib.validD_step (c :: t) (by simp)
 have hl := letterS_decode c t
 have hw := Lib.decodeL_width (c :: t)
 unfold outS at hl
 by_cases hb : (Lib.decodeL (c :: t)).1 = 65533 ∧ (Lib.decodeL (c :: t)).2 = 1
 ·rw [if_pos hb] at h hl
  exact .inl ⟨by rw [hl], h⟩
 rw [if_neg hb] at h hl
 refine .inr ⟨by rw [hl]; exact hw, ?_, by rw [hl]; exact h⟩
 have hle : (letterS (c :: t)).1 ≤ (c :: t).length := by
  simp only [letterS]
  split
  ·simp
  split
  ·simp
  rename_i n x least he
  split
  ·simp
  rename_i y hy
  split
  ·simp
  have hn : n - 1 ≤ t.length := by
   rcases Nat.lt_or_ge t.length (n - 1) with h9 | h9
   ·rw [contS_short _ _ _ h9] at hy; cases hy
   exact h9
  simp only [List.length_cons]; omega
 exact hle
theorem utf_calls (w : World) (l : List UInt8) (hl : l.length ≤ 1000000000) :
  Calls Tryz.prog 32 #[.string ⟨l.toArray⟩] w fun e w' => e = .returned (.bool (Lib.validD l)) ∧ w = w' := by
 go_enter Tryz.func32, Tryz.ntmps32
 go_wp2_with fail
 go_loopg [0] l.length (fun k s0 wr => ∃ r : List UInt8, k = r.length ∧ r.length ≤ l.length ∧ s0 = .string ⟨r.toArray⟩ ∧ Lib.validD l = Lib.validD r ∧ w = wr)
 case atStart => exact ⟨l, rfl, Nat.le_refl _, rfl, rfl, rfl⟩
 case round =>
  obtain ⟨r, hk, hr, rfl, hv, rfl⟩ := hrel
  have Hk := hid hk
  have HV := hid hv
  clear hk hv
  by_cases h0 : r.length = 0
  ·obtain rfl : r = [] := List.length_eq_zero_iff.1 h0
   have HF : Hid (Lib.validD l = true) := hid (by rw [HV.out]; rfl)
   clear h0
   go_wp2_with fail
   go_ret
   rw [HF.out]
   exact ⟨rfl, rfl⟩
  have h9 : (0 : Int) < (r.length : Int) := by omega
  have hlv : ((letterS r).1 = 0 ∧ Lib.validD r = false) ∨ (1 ≤ (letterS r).1 ∧ (letterS r).1 ≤ r.length ∧ Lib.validD r = Lib.validD (r.drop (letterS r).1)) := by
   cases r with
   | nil => exact absurd rfl h0
   | cons c t => exact letter_valid c t
  clear h0
  go_wp2_with fail
  refine (letter_calls w r (by omega)).mono ?_
  rintro e w2 ⟨rfl, rfl⟩
  generalize (letterS r).1 = n at *
  generalize (letterS r).2 = x at *
  rcases hlv with ⟨rfl, h2⟩ | ⟨h1, h2, h3⟩
  ·have HF : Hid (Lib.validD l = false) := hid (by rw [HV.out, h2])
   clear h2
   go_wp2_with fail
   go_ret
   rw [HF.out]
   exact ⟨rfl, rfl⟩
  have HF : Hid (Lib.validD l = Lib.validD (r.drop n)) := hid (by rw [HV.out, h3])
  have hne : ((n : Int) == 0) = false := by rw [beq_eq_false_iff_ne]; omega
  have hext : (⟨r.toArray⟩ : ByteArray).extract n r.length = ⟨(r.drop n).toArray⟩ := by rw [Lib.extract_eq]; rw [List.take_of_length_le (by simp)]
  have HL : Hid ((r.drop n).length = r.length - n) := hid (by simp)
  clear h3
  go_wp2_with fail
  go_roundg (r.drop n).length
  case measure => have := Hk.out; have := HL.out; omega
  exact ⟨_, rfl, by rw [HL.out]; omega, rfl, HF.out, rfl⟩
end Go.Proofs.YtfclfaidmipjpaaGreatDoor
