/- Texts of this claim, joined: JkL, JT, To1, To2. -/
import Derived.Lib.ItoaLen
import Derived.Test.YtfclfaidmipjpaaGreatDoorCo09
namespace Go.Proofs.YtfclfaidmipjpaaGreatDoor
set_option maxRecDepth 100000
set_option maxHeartbeats 20000000
open Go.Lib (hid)
def unlR : List (List UInt8) → List (List UInt8) → Bool
 | _, [] => true
 | seen, s :: r => if seen.contains s || !Lib.validD s then false else unlR (seen ++ [s]) r
def unlikeB (ns : List (List UInt8)) : Bool := unlR [] ns
def bareB (k : Int) (b : Bool) : Bool := if k = 1 then b else false
def bareN (k : Int) (n : Dec) : Dec := if k = 2 then n else Dec.zero
def bareT (k : Int) (t : List UInt8) : List UInt8 := if k = 3 then t else []
def deepK (k : Int) : Nat := if k = 5 ∨ k = 4 then 1 else 0
def okK (k : Int) (ok0 : Bool) (nl : Nat) (ns : List (List UInt8)) : Bool := if k = 5 then ok0 && (ns.length == nl && unlikeB ns) else if k = 0 ∨ k = 1 ∨ k = 2 ∨ k = 3 ∨ k = 4 then ok0 else false
def badK (k : Int) (b : Bool) (n : Dec) (t : List UInt8) (nl : Nat) (ns : List (List UInt8)) : Bool := (b != bareB k b) || !sameB n (bareN k n) || (t != bareT k t) || (deepK k == 0 && decide (0 < nl)) || (k != 5 && decide (0 < ns.length))
def headB (k : Int) (b : Bool) (n : Dec) (t : List UInt8) (nl : Nat) (ns : List (List UInt8)) : Bool := !badK k b n t nl ns && okK k (Lib.validD t && mayB n) nl ns
mutual
def goodJ : J → Bool
 | .mk k b n t l ns => headB k b n t l.length ns && goodL l
def goodL : List J → Bool
 | [] => true
 | x :: r => goodJ x && goodL r
end
mutual
def deepJ : J → Nat
 | .mk k _ _ _ l _ => deepL (deepK k) l
def deepL : Nat → List J → Nat
 | d, [] => d
 | d, x :: r => deepL (max d (deepJ x + 1)) r
end
def szN (ns : List (List UInt8)) : Nat := (ns.map (fun s => s.length + 1)).sum
mutual
def szJ : J → Nat
 | .mk _ _ n t l ns => 1 + t.length + n.digits.length + szN ns + szL l
def szL : List J → Nat
 | [] => 0
 | x :: r => szJ x + szL r
end
theorem szL_in {l : List J} {i : Nat} {x : J} (h : l[i]? = some x) : szJ x ≤ szL l := by
 induction l generalizing i with
 | nil => simp at h
 | cons y l ih =>
  simp only [szL]
  cases i with
  | zero => simp only [List.getElem?_cons_zero, Option.some.injEq] at h; rw [h]; omega
  | succ i => have := ih (by simpa using h); omega
theorem szN_in {ns : List (List UInt8)} {s : List UInt8} (h : s ∈ ns) : s.length + 1 ≤ szN ns := by
 induction ns with
 | nil => simp at h
 | cons y l ih =>
  simp only [szN, List.map_cons, List.sum_cons]
  rcases List.mem_cons.1 h with rfl | h
  ·omega
  have := ih h; unfold szN at this; omega
theorem szN_len (ns : List (List UInt8)) : ns.length ≤ szN ns := by
 induction ns with
 | nil => simp
 | cons y l ih => simp only [szN, List.map_cons, List.sum_cons, List.length_cons]; unfold szN at ih; omega
theorem szJ_pos (v : J) : 1 ≤ szJ v := by cases v; simp only [szJ]; omega
theorem szL_len (l : List J) : l.length ≤ szL l := by
 induction l with
 | nil => simp
 | cons y l ih => simp only [szL, List.length_cons]; have := szJ_pos y; omega
theorem deepK_le (k : Int) : deepK k ≤ 1 := by unfold deepK; split <;> omega
mutual
theorem deepJ_le : (v : J) → deepJ v ≤ szJ v
 | .mk k b n t l ns => by
  have h1 := deepL_le l (deepK k)
  have h2 := deepK_le k
  simp only [deepJ, szJ]
  omega
theorem deepL_le : (l : List J) → (d : Nat) → deepL d l ≤ max d (szL l + 1)
 | [], d => by simp only [deepL]; omega
 | x :: r, d => by
  have h1 := deepJ_le x
  have h2 := deepL_le r (max d (deepJ x + 1))
  simp only [deepL, szL]
  omega
end
theorem deepL_app (d : Nat) (l : List J) (x : J) : deepL d (l ++ [x]) = max (deepL d l) (deepJ x + 1) := by
 induction l generalizing d with
 | nil => simp [deepL]
 | cons y l ih => simp only [List.cons_append, deepL]; exact ih _
theorem goodL_app (l : List J) (x : J) : goodL (l ++ [x]) = (goodL l && goodJ x) := by
 induction l with
 | nil => simp [goodL]
 | cons y l ih => simp only [List.cons_append, goodL, ih, Bool.and_assoc]
theorem deepL_take {d : Nat} {l : List J} {i : Nat} {x : J} (h : l[i]? = some x) : deepL d (l.take (i + 1)) = max (deepL d (l.take i)) (deepJ x + 1) := by rw [List.take_add_one, h]; exact deepL_app _ _ _
theorem goodL_take {l : List J} {i : Nat} {x : J} (h : l[i]? = some x) : goodL (l.take (i + 1)) = (goodL (l.take i) && goodJ x) := by rw [List.take_add_one, h]; exact goodL_app _ _
theorem deepL_mono (l : List J) : ∀ d i, deepL d (l.take i) ≤ deepL d l := by
 induction l with
 | nil => intro d i; simp
 | cons x l ih =>
  intro d i
  cases i with
  | zero =>
   simp only [List.take_zero, deepL]
   have h1 := ih (max d (deepJ x + 1)) 0
   simp only [List.take_zero, deepL] at h1
   omega
  | succ i => simp only [List.take_succ_cons, deepL]; exact ih _ _
theorem deep_in {d : Nat} {l : List J} {i : Nat} {x : J} (h : l[i]? = some x) : deepJ x + 1 ≤ deepL d l := by
 have h1 := deepL_mono l d (i + 1)
 rw [deepL_take h] at h1
 omega
open Go.RowKit
/-! ### Dec3 -/
theorem may_bounds {d : Dec} (h : mayB d = true) : Dig d.digits ∧ d.digits.length ≤ 100 ∧ -1000 ≤ d.exp ∧ d.exp ≤ 1000 := by
 obtain ⟨neg, digits, exp⟩ := d
 cases digits with
 | nil => simp [mayB] at h; simp only [h.2]; exact ⟨Dig_nil, by simp, by omega, by omega⟩
 | cons c t =>
  simp only [mayB, Bool.and_eq_true, decide_eq_true_eq] at h
  obtain ⟨⟨⟨⟨⟨h1, h2⟩, h3⟩, h4⟩, h5⟩, h6⟩ := h
  exact ⟨(digAll_iff _).1 h1, by simpa using h2, h5, h6⟩
/-! ### Dec6 -/
def Tab (w : World) : Prop := Lib.TabIs Tryz.prog w "internal/strconv.uint64pow10" .u64 Lib.pow10Tab
theorem Tab.below {w w' : World} (h : Tab w) (hb : Below w.heap.size w w') : Tab w' := Joins.tab_stays (g := 5) (by kernel_rfl) h hb (Nat.le_refl _)
theorem Tab.alloc {w : World} (h : Tab w) (o : Obj) : Tab (w.alloc o) := h.below ((Below.refl _ _).alloc (Nat.le_refl _) o)
theorem below_grow (w : World) (k : Nat) (os : Array Obj) : Below w.heap.size w (Sort.grow (w.drewN k) os) :=
 ⟨rfl, rfl, rfl, by simp [Sort.grow], fun j hj => by show ((w.drewN k).heap ++ os)[j]? = _; rw [Array.getElem?_append_left (by simpa using hj)]; rfl⟩
/-! ### TxtL -/
def textA (d : Dec) : List UInt8 :=
 if d.digits.length = 0 then [48]
 else if 0 ≤ d.exp ∧ d.digits.length + d.exp ≤ 21 then d.digits ++ List.replicate d.exp.toNat 48
 else if 0 < d.digits.length + d.exp ∧ d.digits.length + d.exp ≤ 21 then d.digits.take (d.digits.length + d.exp).toNat ++ 46 :: d.digits.drop (d.digits.length + d.exp).toNat
 else if d.digits.length + d.exp ≤ 0 ∧ -5 ≤ d.digits.length + d.exp then 48 :: 46 :: (List.replicate (-(d.digits.length + d.exp)).toNat 48 ++ d.digits)
 else (if 1 < d.digits.length then d.digits.take 1 ++ 46 :: d.digits.drop 1 else d.digits) ++ 101 :: Lib.itoa (d.digits.length + d.exp - 1)
def textT (d : Dec) : List UInt8 := if d.neg then 45 :: textA d else textA d
def textS (d : Dec) : List UInt8 × Int := if mayB d then (textT d, 0) else ([], 2)
theorem repeat_eq (n : Nat) : Lib.repeatL [48] n = List.replicate n 48 := by
 induction n with
 | zero => rfl
 | succ n ih => rw [Lib.repeatL, ih, List.replicate_succ]; rfl
/-! ### Txt1 -/
theorem text_zero (w : World) (d : Dec) (hmay : mayB d = true) (ht : Tab w) (hn : d.digits.length = 0) :
  Calls Tryz.prog 103 #[.agg #[.bool d.neg, .string ⟨d.digits.toArray⟩, .int .i64 d.exp]] w fun e w' => e = .returned (.tuple #[.string ⟨(textT d).toArray⟩, .int .i64 0]) ∧ Below w.heap.size w w' := by
 obtain ⟨hdg, hdl, he1, he2⟩ := may_bounds hmay
 have hk : chk d = 0 := by simp [chk, hmay]
 have h1 := hid (DecAt.at w d _ rfl)
 have hbel : Below w.heap.size w (w.alloc (Obj.cells #[Value.bool d.neg, Value.string { data := d.digits.toArray }, Value.int IntKind.i64 d.exp] 26)) := (Below.refl _ _).alloc (Nat.le_refl _) _
 have Ht := hid ht
 have Hk := hid hk
 clear ht hk hmay hdg
 have hA : textA d = [48] := by simp [textA, hn]
 have HA := hid hA
 have hn2 : ((d.digits.length : Int) == 0) = true := by rw [hn]; rfl
 clear hA hn
 go_enter Tryz.func103, Tryz.ntmps103
 go_wp2_with fail
 refine (check_calls _ d (by omega)).mono ?_
 rintro e w2 ⟨rfl, hb2⟩
 rw [Hk.out]
 have h2 := h1.out.under hb2
 have hb3 := hbel.trans (hb2.mono hbel.size)
 have Ht2 := hid ((Ht.out.alloc _).below hb2)
 clear h1 Ht hb2 hbel
 have c0 := h2.c0
 have c1 := h2.c1
 have c2 := h2.c2
 have H2 := hid h2
 clear h2
 clear Ht2
 obtain ⟨dn, dg, de⟩ := d
 simp only at *
 cases dn with
 | true =>
  go_wp2_with fail
  go_ret2
  refine ⟨?_, hb3⟩
  rw [textT, HA.out]
  exact congrArg (fun s => Ending.returned (.tuple #[.string s, .int .i64 0])) (bytes_eq (by simp [ByteArray.data_append]))
 | false =>
  go_wp2_with fail
  go_ret2
  refine ⟨?_, hb3⟩
  rw [textT, HA.out]
  exact congrArg (fun s => Ending.returned (.tuple #[.string s, .int .i64 0])) (bytes_eq (by simp))
theorem text_whole (w : World) (d : Dec) (hmay : mayB d = true) (ht : Tab w) (hn : 0 < d.digits.length) (h0 : 0 ≤ d.exp) (hp : d.digits.length + d.exp ≤ 21) :
  Calls Tryz.prog 103 #[.agg #[.bool d.neg, .string ⟨d.digits.toArray⟩, .int .i64 d.exp]] w fun e w' => e = .returned (.tuple #[.string ⟨(textT d).toArray⟩, .int .i64 0]) ∧ Below w.heap.size w w' := by
 obtain ⟨hdg, hdl, he1, he2⟩ := may_bounds hmay
 have hk : chk d = 0 := by simp [chk, hmay]
 have h1 := hid (DecAt.at w d _ rfl)
 have hbel : Below w.heap.size w (w.alloc (Obj.cells #[Value.bool d.neg, Value.string { data := d.digits.toArray }, Value.int IntKind.i64 d.exp] 26)) := (Below.refl _ _).alloc (Nat.le_refl _) _
 have Ht := hid ht
 have Hk := hid hk
 clear ht hk hmay hdg
 have hA : textA d = d.digits ++ List.replicate d.exp.toNat 48 := by simp only [textA]; rw [if_neg (by omega), if_pos ⟨h0, hp⟩]
 have HA := hid hA
 have hn2 : ((d.digits.length : Int) == 0) = false := by rw [beq_eq_false_iff_ne]; omega
 have hee : d.exp = (d.exp.toNat : Int) := by omega
 have Hee := hid hee
 clear hA hee
 go_enter Tryz.func103, Tryz.ntmps103
 go_wp2_with fail
 refine (check_calls _ d (by omega)).mono ?_
 rintro e w2 ⟨rfl, hb2⟩
 rw [Hk.out]
 have h2 := h1.out.under hb2
 have hb3 := hbel.trans (hb2.mono hbel.size)
 have Ht2 := hid ((Ht.out.alloc _).below hb2)
 clear h1 Ht hb2 hbel
 have c0 := h2.c0
 have c1 := h2.c1
 have c2 := h2.c2
 have H2 := hid h2
 clear h2
 go_wp2_with fail
 rw [Hee.out]
 refine (Tryz.strings_Repeat ⟨#[48]⟩ d.exp.toNat _ (by omega) (by rw [show (⟨#[48]⟩ : ByteArray).size = 1 from rfl]; omega)).mono ?_
 rintro e w4 ⟨rfl, hb4⟩
 rw [show (⟨#[48]⟩ : ByteArray).data.toList = [48] from rfl, repeat_eq]
 have h4 := H2.out.under hb4
 have hb5 := hb3.trans (hb4.mono hb3.size)
 have c0 := h4.c0
 clear H2 hb3 hb4 h4 Ht2
 have hb3 := hb5
 have hen : d.exp.toNat ≤ 21 := by omega
 generalize d.exp.toNat = en at *
 obtain ⟨dn, dg, de⟩ := d
 simp only at *
 cases dn with
 | true =>
  go_wp2_with fail
  go_ret2
  refine ⟨?_, hb3⟩
  rw [textT, HA.out]
  exact congrArg (fun s => Ending.returned (.tuple #[.string s, .int .i64 0])) (bytes_eq (by simp [ByteArray.data_append]))
 | false =>
  go_wp2_with fail
  go_ret2
  refine ⟨?_, hb3⟩
  rw [textT, HA.out]
  exact congrArg (fun s => Ending.returned (.tuple #[.string s, .int .i64 0])) (bytes_eq (by simp [ByteArray.data_append]))
theorem text_point (w : World) (d : Dec) (hmay : mayB d = true) (ht : Tab w) (hn : 0 < d.digits.length) (h0 : d.exp < 0) (hp0 : 0 < d.digits.length + d.exp) (hp : d.digits.length + d.exp ≤ 21) :
  Calls Tryz.prog 103 #[.agg #[.bool d.neg, .string ⟨d.digits.toArray⟩, .int .i64 d.exp]] w fun e w' => e = .returned (.tuple #[.string ⟨(textT d).toArray⟩, .int .i64 0]) ∧ Below w.heap.size w w' := by
 obtain ⟨hdg, hdl, he1, he2⟩ := may_bounds hmay
 have hk : chk d = 0 := by simp [chk, hmay]
 have h1 := hid (DecAt.at w d _ rfl)
 have hbel : Below w.heap.size w (w.alloc (Obj.cells #[Value.bool d.neg, Value.string { data := d.digits.toArray }, Value.int IntKind.i64 d.exp] 26)) := (Below.refl _ _).alloc (Nat.le_refl _) _
 have Ht := hid ht
 have Hk := hid hk
 clear ht hk hmay hdg
 obtain ⟨p, hpp⟩ : ∃ p : Nat, (d.digits.length : Int) + d.exp = p := ⟨((d.digits.length : Int) + d.exp).toNat, by omega⟩
 have hA : textA d = d.digits.take p ++ 46 :: d.digits.drop p := by
  simp only [textA]; rw [if_neg (by omega), if_neg (by omega), if_pos ⟨hp0, hp⟩, hpp, Int.toNat_natCast]
 have HA := hid hA
 have hn2 : ((d.digits.length : Int) == 0) = false := by rw [beq_eq_false_iff_ne]; omega
 have hp1 : (p : Int) ≤ 21 := by omega
 have hp2 : (0 : Int) < p := by omega
 have hp3 : (p : Int) ≤ d.digits.length := by omega
 have hx0 : (⟨d.digits.toArray⟩ : ByteArray).extract 0 p = ⟨(d.digits.take p).toArray⟩ := by rw [Lib.extract_eq]; simp
 have hx1 : (⟨d.digits.toArray⟩ : ByteArray).extract p d.digits.length = ⟨(d.digits.drop p).toArray⟩ := by rw [Lib.extract_eq]; rw [List.take_of_length_le (by simp)]
 clear hA hp0 hp
 go_enter Tryz.func103, Tryz.ntmps103
 go_wp2_with fail
 refine (check_calls _ d (by omega)).mono ?_
 rintro e w2 ⟨rfl, hb2⟩
 rw [Hk.out]
 have h2 := h1.out.under hb2
 have hb3 := hbel.trans (hb2.mono hbel.size)
 have Ht2 := hid ((Ht.out.alloc _).below hb2)
 clear h1 Ht hb2 hbel
 have c0 := h2.c0
 have c1 := h2.c1
 have c2 := h2.c2
 have H2 := hid h2
 clear h2
 clear Ht2
 go_wp2_with fail
 go_quiet (fail)
 have hb3 := below_drewN hb3 nq
 obtain ⟨dn, dg, de⟩ := d
 simp only at *
 cases dn with
 | true =>
  go_wp2_with fail
  go_ret2
  refine ⟨?_, hb3⟩
  rw [textT, HA.out]
  exact congrArg (fun s => Ending.returned (.tuple #[.string s, .int .i64 0])) (bytes_eq (by simp [ByteArray.data_append]))
 | false =>
  go_wp2_with fail
  go_ret2
  refine ⟨?_, hb3⟩
  rw [textT, HA.out]
  exact congrArg (fun s => Ending.returned (.tuple #[.string s, .int .i64 0])) (bytes_eq (by simp [ByteArray.data_append]))
theorem text_small (w : World) (d : Dec) (hmay : mayB d = true) (ht : Tab w) (hn : 0 < d.digits.length) (hp0 : d.digits.length + d.exp ≤ 0) (hp : -5 ≤ d.digits.length + d.exp) :
  Calls Tryz.prog 103 #[.agg #[.bool d.neg, .string ⟨d.digits.toArray⟩, .int .i64 d.exp]] w fun e w' => e = .returned (.tuple #[.string ⟨(textT d).toArray⟩, .int .i64 0]) ∧ Below w.heap.size w w' := by
 obtain ⟨hdg, hdl, he1, he2⟩ := may_bounds hmay
 have hk : chk d = 0 := by simp [chk, hmay]
 have h1 := hid (DecAt.at w d _ rfl)
 have hbel : Below w.heap.size w (w.alloc (Obj.cells #[Value.bool d.neg, Value.string { data := d.digits.toArray }, Value.int IntKind.i64 d.exp] 26)) := (Below.refl _ _).alloc (Nat.le_refl _) _
 have Ht := hid ht
 have Hk := hid hk
 clear ht hk hmay hdg
 obtain ⟨p, hpp⟩ : ∃ p : Nat, -((d.digits.length : Int) + d.exp) = p := ⟨(-((d.digits.length : Int) + d.exp)).toNat, by omega⟩
 have hA : textA d = 48 :: 46 :: (List.replicate p 48 ++ d.digits) := by
  simp only [textA]; rw [if_neg (by omega), if_neg (by omega), if_neg (by omega), if_pos ⟨hp0, hp⟩, hpp, Int.toNat_natCast]
 have HA := hid hA
 have hn2 : ((d.digits.length : Int) == 0) = false := by rw [beq_eq_false_iff_ne]; omega
 have Hpp := hid hpp
 clear hA hpp
 go_enter Tryz.func103, Tryz.ntmps103
 go_wp2_with fail
 refine (check_calls _ d (by omega)).mono ?_
 rintro e w2 ⟨rfl, hb2⟩
 rw [Hk.out]
 have h2 := h1.out.under hb2
 have hb3 := hbel.trans (hb2.mono hbel.size)
 have Ht2 := hid ((Ht.out.alloc _).below hb2)
 clear h1 Ht hb2 hbel
 have c0 := h2.c0
 have c1 := h2.c1
 have c2 := h2.c2
 have H2 := hid h2
 clear h2
 go_wp2_with fail
 rw [Hpp.out]
 have hp5 : p ≤ 5 := by have := Hpp.out; omega
 refine (Tryz.strings_Repeat ⟨#[48]⟩ p _ (by omega) (by rw [show (⟨#[48]⟩ : ByteArray).size = 1 from rfl]; omega)).mono ?_
 rintro e w4 ⟨rfl, hb4⟩
 rw [show (⟨#[48]⟩ : ByteArray).data.toList = [48] from rfl, repeat_eq]
 have h4 := H2.out.under hb4
 have hb5 := hb3.trans (hb4.mono hb3.size)
 have c0 := h4.c0
 clear H2 hb3 hb4 h4 Ht2
 have hb3 := hb5
 obtain ⟨dn, dg, de⟩ := d
 simp only at *
 cases dn with
 | true =>
  go_wp2_with fail
  go_ret2
  refine ⟨?_, hb3⟩
  rw [textT, HA.out]
  exact congrArg (fun s => Ending.returned (.tuple #[.string s, .int .i64 0])) (bytes_eq (by simp [ByteArray.data_append]))
 | false =>
  go_wp2_with fail
  go_ret2
  refine ⟨?_, hb3⟩
  rw [textT, HA.out]
  exact congrArg (fun s => Ending.returned (.tuple #[.string s, .int .i64 0])) (bytes_eq (by simp [ByteArray.data_append]))
theorem text_exp1 (w : World) (d : Dec) (hmay : mayB d = true) (ht : Tab w) (hn : d.digits.length = 1) (hp : 21 < d.digits.length + d.exp ∨ d.digits.length + d.exp < -5) :
  Calls Tryz.prog 103 #[.agg #[.bool d.neg, .string ⟨d.digits.toArray⟩, .int .i64 d.exp]] w fun e w' => e = .returned (.tuple #[.string ⟨(textT d).toArray⟩, .int .i64 0]) ∧ Below w.heap.size w w' := by
 obtain ⟨hdg, hdl, he1, he2⟩ := may_bounds hmay
 have hk : chk d = 0 := by simp [chk, hmay]
 have h1 := hid (DecAt.at w d _ rfl)
 have hbel : Below w.heap.size w (w.alloc (Obj.cells #[Value.bool d.neg, Value.string { data := d.digits.toArray }, Value.int IntKind.i64 d.exp] 26)) := (Below.refl _ _).alloc (Nat.le_refl _) _
 have Ht := hid ht
 have Hk := hid hk
 clear ht hk hmay hdg
 have hA : textA d = d.digits ++ 101 :: Lib.itoa (d.digits.length + d.exp - 1) := by
  simp only [textA]; rw [if_neg (by omega), if_neg (by omega), if_neg (by omega), if_neg (by omega), if_neg (by omega)]
 have HA := hid hA
 have hn2 : ((d.digits.length : Int) == 0) = false := by rw [beq_eq_false_iff_ne]; omega
 have hn3 : ¬ (1 : Int) < d.digits.length := by omega
 clear hA
 go_enter Tryz.func103, Tryz.ntmps103
 go_wp2_with fail
 refine (check_calls _ d (by omega)).mono ?_
 rintro e w2 ⟨rfl, hb2⟩
 rw [Hk.out]
 have h2 := h1.out.under hb2
 have hb3 := hbel.trans (hb2.mono hbel.size)
 have Ht2 := hid ((Ht.out.alloc _).below hb2)
 clear h1 Ht hb2 hbel
 have c0 := h2.c0
 have c1 := h2.c1
 have c2 := h2.c2
 have H2 := hid h2
 clear h2
 obtain ⟨P, hP⟩ : ∃ P, (d.digits.length : Int) + d.exp = P := ⟨_, rfl⟩
 rw [hP] at hp HA
 have hP5 : -2000 ≤ P ∧ P ≤ 2000 := by omega
 have hP6 : d.exp < P := by omega
 have Hn := hid hn
 clear hn
 rcases hp with hp | hp
 all_goals
  go_wp2_with fail
  refine (Tryz.strconv_Itoa (P - 1) (by omega) (by omega) _ (by exact Ht2.out)).mono ?_
  rintro e w4 ⟨rfl, k, os, hw4⟩
  have hb4 := below_grow w2 k os
  rw [← hw4] at hb4
  have hb4 : Below w2.heap.size w2 w4 := hb4
  have hit := Lib.itoa_length_le (P - 1) (by omega) (by omega)
  have h4 := H2.out.under hb4
  have hb5 := hb3.trans (hb4.mono hb3.size)
  have c0 := h4.c0
  clear H2 hb3 hb4 h4 Ht2 hw4
  have hb3 := hb5
  generalize Lib.itoa (P - 1) = it at *
  obtain ⟨dn, dg, de⟩ := d
  simp only at *
  cases dn with
  | true =>
   go_wp2_with fail
   go_ret2
   refine ⟨?_, hb3⟩
   rw [textT, HA.out]
   exact congrArg (fun s => Ending.returned (.tuple #[.string s, .int .i64 0])) (bytes_eq (by simp [ByteArray.data_append]))
  | false =>
   go_wp2_with fail
   go_ret2
   refine ⟨?_, hb3⟩
   rw [textT, HA.out]
   exact congrArg (fun s => Ending.returned (.tuple #[.string s, .int .i64 0])) (bytes_eq (by simp [ByteArray.data_append]))
theorem text_expn (w : World) (d : Dec) (hmay : mayB d = true) (ht : Tab w) (hn : 1 < d.digits.length) (hp : 21 < d.digits.length + d.exp ∨ d.digits.length + d.exp < -5) :
  Calls Tryz.prog 103 #[.agg #[.bool d.neg, .string ⟨d.digits.toArray⟩, .int .i64 d.exp]] w fun e w' => e = .returned (.tuple #[.string ⟨(textT d).toArray⟩, .int .i64 0]) ∧ Below w.heap.size w w' := by
 obtain ⟨hdg, hdl, he1, he2⟩ := may_bounds hmay
 have hk : chk d = 0 := by simp [chk, hmay]
 have h1 := hid (DecAt.at w d _ rfl)
 have hbel : Below w.heap.size w (w.alloc (Obj.cells #[Value.bool d.neg, Value.string { data := d.digits.toArray }, Value.int IntKind.i64 d.exp] 26)) := (Below.refl _ _).alloc (Nat.le_refl _) _
 have Ht := hid ht
 have Hk := hid hk
 clear ht hk hmay hdg
 have hA : textA d = (d.digits.take 1 ++ 46 :: d.digits.drop 1) ++ 101 :: Lib.itoa (d.digits.length + d.exp - 1) := by
  simp only [textA]; rw [if_neg (by omega), if_neg (by omega), if_neg (by omega), if_neg (by omega), if_pos (by omega)]
 have HA := hid hA
 have hn2 : ((d.digits.length : Int) == 0) = false := by rw [beq_eq_false_iff_ne]; omega
 have hn3 : (1 : Int) < d.digits.length := by omega
 have hx0 : (⟨d.digits.toArray⟩ : ByteArray).extract 0 1 = ⟨(d.digits.take 1).toArray⟩ := by rw [Lib.extract_eq]; simp
 have hx1 : (⟨d.digits.toArray⟩ : ByteArray).extract 1 d.digits.length = ⟨(d.digits.drop 1).toArray⟩ := by rw [Lib.extract_eq]; rw [List.take_of_length_le (by simp)]
 clear hA
 go_enter Tryz.func103, Tryz.ntmps103
 go_wp2_with fail
 refine (check_calls _ d (by omega)).mono ?_
 rintro e w2 ⟨rfl, hb2⟩
 rw [Hk.out]
 have h2 := h1.out.under hb2
 have hb3 := hbel.trans (hb2.mono hbel.size)
 have Ht2 := hid ((Ht.out.alloc _).below hb2)
 clear h1 Ht hb2 hbel
 have c0 := h2.c0
 have c1 := h2.c1
 have c2 := h2.c2
 have H2 := hid h2
 clear h2
 obtain ⟨P, hP⟩ : ∃ P, (d.digits.length : Int) + d.exp = P := ⟨_, rfl⟩
 rw [hP] at hp HA
 have hP5 : -2000 ≤ P ∧ P ≤ 2000 := by omega
 have hP6 : d.exp < P := by omega
 have Hn := hid hn
 clear hn
 rcases hp with hp | hp <;> rcases Int.lt_or_le d.exp 0 with h0 | h0 <;> (try (exfalso; omega; done))
 all_goals
  go_wp2_with fail
  go_quiet (fail)
  have hb3o := hb3
  go_wp2_with fail
  refine (Tryz.strconv_Itoa (P - 1) (by omega) (by omega) _ (by exact Ht2.out)).mono ?_
  rintro e w4 ⟨rfl, k, os, hw4⟩
  have hb4 := below_grow (w2.drewN nq) k os
  rw [← hw4] at hb4
  have hb4 : Below w2.heap.size w2 w4 := (below_drewN (Below.refl _ _) nq).trans hb4
  have hit := Lib.itoa_length_le (P - 1) (by omega) (by omega)
  have h4 := H2.out.under hb4
  have hb5 := hb3o.trans (hb4.mono hb3o.size)
  have c0 := h4.c0
  clear H2 hb3 hb4 h4 Ht2 hw4
  have hb3 := hb5
  generalize Lib.itoa (P - 1) = it at *
  obtain ⟨dn, dg, de⟩ := d
  simp only at *
  cases dn with
  | true =>
   go_wp2_with fail
   go_ret2
   refine ⟨?_, hb3⟩
   rw [textT, HA.out]
   exact congrArg (fun s => Ending.returned (.tuple #[.string s, .int .i64 0])) (bytes_eq (by simp [ByteArray.data_append]))
  | false =>
   go_wp2_with fail
   go_ret2
   refine ⟨?_, hb3⟩
   rw [textT, HA.out]
   exact congrArg (fun s => Ending.returned (.tuple #[.string s, .int .i64 0])) (bytes_eq (by simp [ByteArray.data_append]))
theorem text_not (w : World) (d : Dec) (hd : d.digits.length ≤ 10000000000) (hm : mayB d = false) :
  Calls Tryz.prog 103 #[.agg #[.bool d.neg, .string ⟨d.digits.toArray⟩, .int .i64 d.exp]] w fun e w' => e = .returned (.tuple #[.string ⟨#[]⟩, .int .i64 2]) ∧ Below w.heap.size w w' := by
 have hbel : Below w.heap.size w (w.alloc (Obj.cells #[Value.bool d.neg, Value.string { data := d.digits.toArray }, Value.int IntKind.i64 d.exp] 26)) := (Below.refl _ _).alloc (Nat.le_refl _) _
 have hk : chk d = 2 := by simp [chk, hm]
 have Hk := hid hk
 clear hk hm
 go_enter Tryz.func103, Tryz.ntmps103
 go_wp2_with fail
 refine (check_calls _ d (by omega)).mono ?_
 rintro e w2 ⟨rfl, hb2⟩
 rw [Hk.out]
 have hb3 := hbel.trans (hb2.mono hbel.size)
 clear hb2 hbel
 go_wp2_with fail
 go_ret2
 exact ⟨rfl, hb3⟩
theorem text_calls (w : World) (d : Dec) (hd : d.digits.length ≤ 10000000000) (ht : Tab w) :
  Calls Tryz.prog 103 #[.agg #[.bool d.neg, .string ⟨d.digits.toArray⟩, .int .i64 d.exp]] w fun e w' => e = .returned (.tuple #[.string ⟨(textS d).1.toArray⟩, .int .i64 (textS d).2]) ∧ Below w.heap.size w w' := by
 cases hm : mayB d with
 | false =>
  have : textS d = ([], 2) := by simp [textS, hm]
  rw [this]; exact text_not w d hd hm
 | true =>
  have : textS d = (textT d, 0) := by simp [textS, hm]
  rw [this]
  by_cases h0 : d.digits.length = 0
  ·exact text_zero w d hm ht h0
  have hn : 0 < d.digits.length := by omega
  by_cases hp : d.digits.length + d.exp ≤ 21
  ·by_cases he : 0 ≤ d.exp
   ·exact text_whole w d hm ht hn he hp
   by_cases hp0 : 0 < d.digits.length + d.exp
   ·exact text_point w d hm ht hn (by omega) hp0 hp
   by_cases hp5 : -5 ≤ d.digits.length + d.exp
   ·exact text_small w d hm ht hn (by omega) hp5
   by_cases h1 : d.digits.length = 1
   ·exact text_exp1 w d hm ht h1 (.inr (by omega))
   exact text_expn w d hm ht (by omega) (.inr (by omega))
  by_cases h1 : d.digits.length = 1
  ·exact text_exp1 w d hm ht h1 (.inl (by omega))
  exact text_expn w d hm ht (by omega) (.inl (by omega))
open Go.RowKit
theorem wpList_append_FS {w : World} {ops : Array Oper} {rest : List Oper} {o : Oper} {a : Act} {Q : Exit → Act → World → Prop} (hgd : o.guard = none) (s x : Operand)
  (ho : o.op = .call { callee := .builtin .append, args := #[s, x], argTypes := #[22, 9] })
  (B : Nat) (v : Value) (l : List UInt8) (hs : a.eval s = v) (hown : FB w B v l) (m : List UInt8)
  (hx : a.eval x = .string ⟨m.toArray⟩) (hlen : l.length + m.length ≤ 100000000000) (hbase : B ≤ w.heap.size)
  (h : ∀ v' w', FB w' B v' (l ++ m) → Below B w w' → Lib.OthersKept 5 none w w' → wpList Tryz.prog ops Q rest (a.put o.dst v') w') :
  wpList Tryz.prog ops Q (o :: rest) a w := by
 obtain ⟨i0, hi, hz0, hz1, hz2⟩ := info_parts Tryz.infoByte
 have hms : (⟨m.toArray⟩ : ByteArray).size = m.length := by simp [ByteArray.size]
 refine Lib.wpList_append_own_stringF _ hgd s x 22 9 ho B 5 i0 Tryz.underlying22 Tryz.underlying9 hi hz0 hz1 hz2 v l.length (u8s l) hs hown ⟨m.toArray⟩ hx ?_ ?_ hbase ?_
 ·rw [hms]; unfold maxLen; omega
 ·rw [hms]; omega
 ·intro v' w' h1 h2 _
  refine h v' w' ?_ ((Below.refl B w).grown h2 hbase (fun k hk => (hown.lt k hk).1)) ((Lib.OthersKept.refl _ _ w).grown h2 (Lib.ownsRowF_kind hown))
  unfold FB
  rw [u8s_app, List.length_append]
  rw [hms] at h1
  exact h1
def boolS (b : Bool) : List UInt8 := if b then [116, 114, 117, 101] else [102, 97, 108, 115, 101]
def AppTo (B : Nat) (w : World) (l : List UInt8) (e : Ending) (w' : World) : Prop := ∃ v', e = .returned v' ∧ FB w' B v' l ∧ Below B w w' ∧ Lib.OthersKept 5 none w w'
theorem apb0_calls (B : Nat) (v : Value) (l : List UInt8) (b : Bool) (w : World) (h : FB w B v l) (hl : l.length ≤ 10000000000) (hB : B ≤ w.heap.size) :
  Calls Tryz.prog 142 #[v, .bool b] w (AppTo B w (l ++ boolS b)) := by
 cases b with
 | true =>
  go_enter Tryz.func142, Tryz.ntmps142
  go_wp2_with (at_builtin; refine wpList_append_FS rfl _ _ rfl B _ _ rfl h [116, 114, 117, 101] rfl ?c1 ?c2 ?_)
  case c1 => simp only [List.length_cons, List.length_nil]; omega
  case c2 => exact hB
  intro v1 w1 hF hB1 hO1
  go_wp2_with fail
  go_ret
  exact ⟨v1, rfl, hF, hB1, hO1⟩
 | false =>
  go_enter Tryz.func142, Tryz.ntmps142
  go_wp2_with (at_builtin; refine wpList_append_FS rfl _ _ rfl B _ _ rfl h [102, 97, 108, 115, 101] rfl ?d1 ?d2 ?_)
  case d1 => simp only [List.length_cons, List.length_nil]; omega
  case d2 => exact hB
  intro v1 w1 hF hB1 hO1
  go_wp2_with fail
  go_ret
  exact ⟨v1, rfl, hF, hB1, hO1⟩
theorem apb_calls (B : Nat) (v : Value) (l : List UInt8) (b : Bool) (w : World) (h : FB w B v l) (hl : l.length ≤ 10000000000) (hB : B ≤ w.heap.size) :
  Calls Tryz.prog 102 #[v, .bool b] w (AppTo B w (l ++ boolS b)) := by
 go_enter Tryz.func102, Tryz.ntmps102
 go_wp2_with fail
 refine (apb0_calls B v l b w h hl hB).mono ?_
 rintro e w1 ⟨v1, rfl, hF, hB1, hO1⟩
 go_wp2_with fail
 go_ret
 exact ⟨v1, rfl, hF, hB1, hO1⟩
open Go.RowKit
def wNul : List UInt8 := [110, 117, 108, 108]
mutual
def toldJ : J → List UInt8
 | .mk k b n t l ns => if k = 0 then wNul else if k = 1 then boolS b else if k = 2 then (textS n).1 else if k = 3 then quoT t
  else (if k = 5 then [123] else [91]) ++ toldL (decide (k = 5)) true l ns ++ (if k = 5 then [125] else [93])
def toldL : Bool → Bool → List J → List (List UInt8) → List UInt8
 | _, _, [], _ => []
 | obj, f, x :: r, ns => (if f then [] else [44]) ++ (if obj then quoT (ns.headD []) ++ [58] else []) ++ toldJ x ++ toldL obj false r ns.tail
end
theorem toldL_nil (obj f : Bool) (ns : List (List UInt8)) : toldL obj f [] ns = [] := by simp [toldL]
theorem toldL_snoc (obj : Bool) (x : J) : ∀ (a : List J) (f : Bool) (ns : List (List UInt8)),
  toldL obj f (a ++ [x]) ns = toldL obj f a ns ++ ((if f && decide (a.length = 0) then [] else [44]) ++ ((if obj then quoT (ns.getD a.length []) ++ [58] else []) ++ toldJ x))
 | [], f, ns => by
  cases ns <;> cases f <;> simp [toldL, List.headD]
 | y :: a, f, ns => by
  show toldL obj f (y :: (a ++ [x])) ns = _
  rw [toldL, toldL, toldL_snoc obj x a false ns.tail]
  have h1 : ns.tail.getD a.length [] = ns.getD (y :: a).length [] := by cases ns <;> simp
  rw [h1]
  simp [List.append_assoc]
theorem told_take (obj : Bool) (l : List J) (ns : List (List UInt8)) (i : Nat) (h : i < l.length) :
  toldL obj true (l.take (i + 1)) ns = toldL obj true (l.take i) ns ++ ((if i = 0 then [] else [44]) ++ ((if obj then quoT (ns.getD i []) ++ [58] else []) ++ toldJ l[i])) := by
 rw [List.take_succ_eq_append_getElem h, toldL_snoc]
 have hl : (l.take i).length = i := by rw [List.length_take]; omega
 rw [hl]
 by_cases h0 : i = 0 <;> simp [h0]
theorem head_valid {k : Int} {b : Bool} {n : Dec} {t : List UInt8} {l : List J} {ns : List (List UInt8)} (h : goodJ (.mk k b n t l ns) = true) : Lib.validD t = true := by
 simp only [goodJ, headB, okK, Bool.and_eq_true] at h
 cases hv : Lib.validD t with
 | true => rfl
 | false => simp [hv] at h
theorem head_kind {k : Int} {b : Bool} {n : Dec} {t : List UInt8} {l : List J} {ns : List (List UInt8)} (h : goodJ (.mk k b n t l ns) = true) (h0 : k ≠ 0) (h1 : k ≠ 1) (h2 : k ≠ 2) (h3 : k ≠ 3) : k = 4 ∨ (k = 5 ∧ ns.length = l.length ∧ unlikeB ns = true) := by
 simp only [goodJ, headB, okK, Bool.and_eq_true] at h
 by_cases h5 : k = 5
 ·right
  subst h5
  have h9 := h.1.2
  simp at h9
  exact ⟨rfl, h9.2.1, h9.2.2⟩
 left
 have h9 := h.1.2
 rw [if_neg h5] at h9
 by_cases h4 : k = 4
 ·exact h4
 rw [if_neg (by omega)] at h9
 cases h9
theorem unl_valid : ∀ (ns seen : List (List UInt8)), unlR seen ns = true → ∀ s ∈ ns, Lib.validD s = true
 | [], _, _, _, hs => by cases hs
 | n :: ns, seen, h, s, hs => by
  rw [unlR] at h
  split at h
  ·cases h
  rename_i hc
  rcases List.mem_cons.1 hs with rfl | h9
  ·simp at hc
   exact hc.2
  exact unl_valid ns _ h s h9
end Go.Proofs.YtfclfaidmipjpaaGreatDoor
