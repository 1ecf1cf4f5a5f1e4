/- Texts of this claim, joined: JsL, JsM. -/
import Derived.Lib.ValidLaws
import Derived.Test.YtfclfaidmipjpaaGreatDoorCo00
namespace Go.Proofs.YtfclfaidmipjpaaGreatDoor
set_option maxRecDepth 100000
set_option maxHeartbeats 20000000
inductive J where
 | mk (kind : Int) (b : Bool) (n : Dec) (t : List UInt8) (l : List J) (ns : List (List UInt8))
def J.kind : J → Int | .mk k _ _ _ _ _ => k
def J.b : J → Bool | .mk _ b _ _ _ _ => b
def J.n : J → Dec | .mk _ _ n _ _ _ => n
def J.t : J → List UInt8 | .mk _ _ _ t _ _ => t
def J.l : J → List J | .mk _ _ _ _ l _ => l
def J.ns : J → List (List UInt8) | .mk _ _ _ _ _ ns => ns
def J.zero : J := .mk 0 false Dec.zero [] [] []
structure Fl where
 deep : Bool
 alone : Bool
 twice : Bool
 great : Bool
def Fl.none : Fl := ⟨false, false, false, false⟩
def blankB (c : UInt8) : Bool := c == 32 || c == 9 || c == 10 || c == 13
def skipS (s : List UInt8) : List UInt8 := s.dropWhile blankB
def hexV (c : UInt8) : Option Nat :=
 if 48 ≤ c.toNat ∧ c.toNat ≤ 57 then some (c.toNat - 48) else if 97 ≤ c.toNat ∧ c.toNat ≤ 102 then some (c.toNat - 97 + 10) else if 65 ≤ c.toNat ∧ c.toNat ≤ 70 then some (c.toNat - 65 + 10) else none
def hexN : Nat → Nat → List UInt8 → Option (Nat × List UInt8)
 | 0, x, s => some (x, s)
 | _ + 1, _, [] => none
 | n + 1, x, c :: t => match hexV c with
  | none => none
  | some d => hexN n (16 * x + d) t
def letS (x : Nat) : List UInt8 :=
 if x < 128 then [UInt8.ofNat x] else if x < 2048 then [UInt8.ofNat (192 + x / 64), UInt8.ofNat (128 + x % 64)]
 else if x < 65536 then [UInt8.ofNat (224 + x / 4096), UInt8.ofNat (128 + x / 64 % 64), UInt8.ofNat (128 + x % 64)]
 else [UInt8.ofNat (240 + x / 262144), UInt8.ofNat (128 + x / 4096 % 64), UInt8.ofNat (128 + x / 64 % 64), UInt8.ofNat (128 + x % 64)]
def plainS (c : UInt8) : Option UInt8 :=
 if c = 34 then some 34 else if c = 92 then some 92 else if c = 47 then some 47 else if c = 98 then some 8 else if c = 102 then some 12 else if c = 110 then some 10 else if c = 114 then some 13 else if c = 116 then some 9 else none
def pairS (x : Nat) (t : List UInt8) : Option (List UInt8 × List UInt8) :=
 if x < 56320 then match t with
  | 92 :: 117 :: t3 => match hexN 4 0 t3 with
   | some (y, t4) => if 56320 ≤ y ∧ y < 57344 then some (letS (65536 + 1024 * (x - 55296) + y - 56320), t4) else none
   | none => none
  | _ => none
 else none
def escS (z : List UInt8) : List UInt8 → Option (List UInt8 × List UInt8 × Bool)
 | [] => none
 | c :: t => match plainS c with
  | some m => some ([m], t, false)
  | none => if c = 117 then match hexN 4 0 t with
    | none => none
    | some (x, t2) => if 55296 ≤ x ∧ x < 57344 then match pairS x t2 with
      | some (bs, t4) => some (bs, t4, false)
      | none => some (z, t2, true)
     else some (letS x, t2, false)
   else none
def qtN (z : List UInt8) : Nat → List UInt8 → Option (List UInt8 × List UInt8 × Bool)
 | 0, _ => none
 | _ + 1, [] => none
 | n + 1, c :: t => if c.toNat < 32 then none else if c = 34 then some ([], t, false)
  else if c = 92 then match escS z t with
   | none => none
   | some (b, t2, a) => match qtN z n t2 with
    | none => none
    | some (u, r, a2) => some (b ++ u, r, a || a2)
  else match qtN z n t with
   | none => none
   | some (u, r, a2) => some (c :: u, r, a2)
def qtS (z : List UInt8) (s : List UInt8) : Option (List UInt8 × List UInt8 × Bool) := qtN z (s.length + 1) s
def numB (c : UInt8) : Bool := digB c || c == 45 || c == 43 || c == 46 || c == 101 || c == 69
def fewS : Nat → List UInt8 → List UInt8
 | _, [] => []
 | k, c :: t => if digB c then (if k < 2 then c :: fewS (k + 1) t else fewS (k + 1) t) else c :: fewS 0 t
def gramB (s : List UInt8) : Bool := (parseS (fewS 0 s)).2 == 0 || (parseS (fewS 0 s)).2 == 4
def numS (s : List UInt8) (f : Fl) : Option (J × List UInt8 × Fl) :=
 if (parseS (s.takeWhile numB)).2 = 170 ∨ ((parseS (s.takeWhile numB)).2 = 3 ∧ gramB (s.takeWhile numB) = false) then none
 else some (.mk 2 false (parseS (s.takeWhile numB)).1 [] [] [], s.dropWhile numB, { f with great := f.great || (parseS (s.takeWhile numB)).2 != 0 })
def nameS (z : List UInt8) (ns : List (List UInt8)) (s : List UInt8) (f : Fl) : Option (List (List UInt8) × List UInt8 × Fl) :=
 match skipS s with
 | [] => none
 | c :: t => if c = 34 then match qtS z t with
   | none => none
   | some (u, r, a) => match skipS r with
    | [] => none
    | c2 :: r2 => if c2 = 58 then some (ns ++ [u], r2, { f with alone := f.alone || a, twice := f.twice || ns.contains u }) else none
  else none
def endB (obj : Bool) : UInt8 := if obj then 125 else 93
def listJ (obj : Bool) (ls : List J) (ns : List (List UInt8)) : J := .mk (if obj then 5 else 4) false Dec.zero [] ls ns
def wNull : List UInt8 := [110, 117, 108, 108]
def wTrue : List UInt8 := [116, 114, 117, 101]
def wFalse : List UInt8 := [102, 97, 108, 115, 101]
mutual
def valS (z : List UInt8) : Nat → Nat → List UInt8 → Fl → Option (J × List UInt8 × Fl)
 | 0, _, _, _ => none
 | n + 1, d, s, f => match skipS s with
  | [] => none
  | c :: t => if c = 123 then inS z n (d + 1) true t { f with deep := f.deep || decide (64 < d + 1) }
   else if c = 91 then inS z n (d + 1) false t { f with deep := f.deep || decide (64 < d + 1) }
   else if c = 34 then match qtS z t with
    | none => none
    | some (u, r, a) => some (.mk 3 false Dec.zero u [] [], r, { f with alone := f.alone || a })
   else if c = 45 ∨ digB c = true then numS (c :: t) f
   else if (c :: t).take 4 = wNull then some (J.zero, (c :: t).drop 4, f)
   else if (c :: t).take 4 = wTrue then some (.mk 1 true Dec.zero [] [] [], (c :: t).drop 4, f)
   else if (c :: t).take 5 = wFalse then some (.mk 1 false Dec.zero [] [] [], (c :: t).drop 5, f)
   else none
def inS (z : List UInt8) : Nat → Nat → Bool → List UInt8 → Fl → Option (J × List UInt8 × Fl)
 | 0, _, _, _, _ => none
 | n + 1, d, obj, s, f => match skipS s with
  | [] => none
  | c :: t => if c = endB obj then some (listJ obj [] [], t, f) else itemS z n d obj [] [] (c :: t) f
def itemS (z : List UInt8) : Nat → Nat → Bool → List J → List (List UInt8) → List UInt8 → Fl → Option (J × List UInt8 × Fl)
 | 0, _, _, _, _, _, _ => none
 | n + 1, d, obj, ls, ns, s, f => match (if obj then nameS z ns s f else some (ns, s, f)) with
  | none => none
  | some (ns2, s2, f2) => match valS z n d s2 f2 with
   | none => none
   | some (v, s3, f3) => match skipS s3 with
    | [] => none
    | c :: t => if c = endB obj then some (listJ obj (ls ++ [v]) ns2, t, f3) else if c = 44 then itemS z n d obj (ls ++ [v]) ns2 t f3 else none
end
def parseJ (z b : List UInt8) : J × Int :=
 if 1048576 < b.length then (J.zero, 3) else if Lib.validD b = false then (J.zero, 181) else
 match valS z (3 * b.length + 3) 0 b Fl.none with
 | none => (J.zero, 180)
 | some (v, r, f) => if skipS r ≠ [] then (J.zero, 180) else if f.deep then (J.zero, 182) else if f.alone then (J.zero, 183) else if f.twice then (J.zero, 184) else if f.great then (J.zero, 4) else (v, 0)
open Go.RowKit
abbrev JR := J × Value × Value
def jcells (r : JR) : List Value := [.int .i64 r.1.kind, .bool r.1.b, .bool r.1.n.neg, .string ⟨r.1.n.digits.toArray⟩, .int .i64 r.1.n.exp, .string ⟨r.1.t.toArray⟩, r.2.1, r.2.2]
def jval (r : JR) : Value := .agg #[.int .i64 r.1.kind, .bool r.1.b, .bool r.1.n.neg, .string ⟨r.1.n.digits.toArray⟩, .int .i64 r.1.n.exp, .string ⟨r.1.t.toArray⟩, r.2.1, r.2.2]
def OwnB (w : World) (g off : Nat) (t : TypeId) : Prop := off = 0 ∧ ∃ cur, w.heap[g]? = some (.cells cur t (0, 0))
theorem OwnB.heap {w w' : World} {g off : Nat} {t : TypeId} (h : OwnB w g off t) (e : w'.heap[g]? = w.heap[g]?) : OwnB w' g off t := ⟨h.1, by obtain ⟨cur, hc⟩ := h.2; exact ⟨cur, e.trans hc⟩⟩
def InS (w : World) (S : Nat → Prop) (g off : Nat) (t : TypeId) : Prop := S g ∧ (S 0 ∨ OwnB w g off t)
theorem InS.heap {w w' : World} {S : Nat → Prop} {g off : Nat} {t : TypeId} (h : InS w S g off t) (e : w'.heap[g]? = w.heap[g]?) : InS w' S g off t := ⟨h.1, h.2.imp id (fun h => h.heap e)⟩
theorem InS.mono {w : World} {S S' : Nat → Prop} {g off : Nat} {t : TypeId} (h : InS w S g off t) (hg : g < w.heap.size) (hb : ∀ k, k < w.heap.size → S k → S' k) : InS w S' g off t := ⟨hb g hg h.1, h.2.imp (hb 0 (Nat.lt_of_le_of_lt (Nat.zero_le _) hg)) id⟩
theorem InS.any (w : World) (g off : Nat) (t : TypeId) : InS w (fun _ => True) g off t := ⟨trivial, .inl trivial⟩
def NamS (w : World) (S : Nat → Prop) (v : Value) (ns : List (List UInt8)) : Prop :=
 ∃ p cap, v = .slice p ns.length cap ∧ ns.length ≤ cap ∧ ns.length ≤ maxLen ∧ (0 < ns.length → ∃ g off, p = some ⟨g, off, none⟩ ∧ InS w S g off 9 ∧ g < w.heap.size ∧ ∀ i s, ns[i]? = some s → w.cell? ⟨g, off + i, none⟩ = some (.string ⟨s.toArray⟩))
inductive JV (w : World) (S : Nat → Prop) : JR → Prop where
 | mk (r : JR) (xs : Nat → Value × Value) (hn : NamS w S r.2.2 r.1.ns) (hl : ∃ p cap, r.2.1 = .slice p r.1.l.length cap ∧ r.1.l.length ≤ cap ∧ r.1.l.length ≤ maxLen ∧ (0 < r.1.l.length → ∃ g off, p = some ⟨g, off, none⟩ ∧ InS w S g off 30 ∧ g < w.heap.size ∧
       ∀ i j, r.1.l[i]? = some j → ∀ c, c < 8 → w.cell? ⟨g, off + i * 8 + c, none⟩ = (jcells (j, xs i))[c]?))
   (hs : ∀ i j, r.1.l[i]? = some j → JV w S (j, xs i)) : JV w S r
theorem NamS.below {w w' : World} {S : Nat → Prop} {v : Value} {ns : List (List UInt8)} (h : NamS w S v ns) (hb : Below w.heap.size w w') : NamS w' S v ns := by
 obtain ⟨p, cap, h1, h2, h3, h4⟩ := h
 refine ⟨p, cap, h1, h2, h3, fun h0 => ?_⟩
 obtain ⟨g, off, e, hB, hl, h5⟩ := h4 h0
 exact ⟨g, off, e, hB.heap (hb.block g hl), Nat.lt_of_lt_of_le hl hb.size, fun i s hi => (hb.cell (p := ⟨g, off + i, none⟩) hl).trans (h5 i s hi)⟩
theorem NamS.apart {S T : Nat → Prop} {w w' : World} {v : Value} {ns : List (List UInt8)} (h : NamS w S v ns) (ha : Apart T w w') (hS : ∀ k, S k → k < w.heap.size → ¬ T k) : NamS w' S v ns := by
 obtain ⟨p, cap, h1, h2, h3, h4⟩ := h
 refine ⟨p, cap, h1, h2, h3, fun h0 => ?_⟩
 obtain ⟨g, off, e, hB, hl, h5⟩ := h4 h0
 exact ⟨g, off, e, hB.heap (ha.block g hl (hS g hB.1 hl)), Nat.lt_of_lt_of_le hl ha.size, fun i s hi => (ha.cell (a := ⟨g, off + i, none⟩) hl (hS g hB.1 hl)).trans (h5 i s hi)⟩
theorem NamS.mono {w : World} {S S' : Nat → Prop} {v : Value} {ns : List (List UInt8)} (h : NamS w S v ns) (hb : ∀ k, k < w.heap.size → S k → S' k) : NamS w S' v ns := by
 obtain ⟨p, cap, h1, h2, h3, h4⟩ := h
 refine ⟨p, cap, h1, h2, h3, fun h0 => ?_⟩
 obtain ⟨g, off, e, hB, hl, h5⟩ := h4 h0
 exact ⟨g, off, e, hB.mono hl hb, hl, h5⟩
theorem JV.bel {w w' : World} {S : Nat → Prop} {r : JR} (h : JV w S r) (hb : Below w.heap.size w w') : JV w' S r := by
 induction h with
 | mk r xs hn hl hs ih =>
  refine .mk r xs (hn.below hb) ?_ ih
  obtain ⟨p, cap, h1, h2, h3, h4⟩ := hl
  refine ⟨p, cap, h1, h2, h3, fun h0 => ?_⟩
  obtain ⟨g, off, e, hB, hg, h5⟩ := h4 h0
  exact ⟨g, off, e, hB.heap (hb.block g hg), Nat.lt_of_lt_of_le hg hb.size, fun i j hi c hc => (hb.cell (p := ⟨g, off + i * 8 + c, none⟩) hg).trans (h5 i j hi c hc)⟩
theorem JV.apart {S T : Nat → Prop} {w w' : World} {r : JR} (h : JV w S r) (ha : Apart T w w') (hS : ∀ k, S k → k < w.heap.size → ¬ T k) : JV w' S r := by
 induction h with
 | mk r xs hn hl hs ih =>
  refine .mk r xs (hn.apart ha hS) ?_ ih
  obtain ⟨p, cap, h1, h2, h3, h4⟩ := hl
  refine ⟨p, cap, h1, h2, h3, fun h0 => ?_⟩
  obtain ⟨g, off, e, hB, hg, h5⟩ := h4 h0
  exact ⟨g, off, e, hB.heap (ha.block g hg (hS g hB.1 hg)), Nat.lt_of_lt_of_le hg ha.size, fun i j hi c hc => (ha.cell (a := ⟨g, off + i * 8 + c, none⟩) hg (hS g hB.1 hg)).trans (h5 i j hi c hc)⟩
theorem JV.mono {w : World} {S S' : Nat → Prop} {r : JR} (h : JV w S r) (hb : ∀ k, k < w.heap.size → S k → S' k) : JV w S' r := by
 induction h with
 | mk r xs hn hl hs ih =>
  refine .mk r xs (hn.mono hb) ?_ ih
  obtain ⟨p, cap, h1, h2, h3, h4⟩ := hl
  refine ⟨p, cap, h1, h2, h3, fun h0 => ?_⟩
  obtain ⟨g, off, e, hB, hg, h5⟩ := h4 h0
  exact ⟨g, off, e, hB.mono hg hb, hg, h5⟩
theorem NamS.nil (w : World) (S : Nat → Prop) : NamS w S (.slice none 0 0) [] := ⟨none, 0, rfl, Nat.le_refl _, Nat.zero_le _, fun h => by simp at h⟩
theorem JV.leaf (w : World) (S : Nat → Prop) (k : Int) (b : Bool) (n : Dec) (t : List UInt8) : JV w S (.mk k b n t [] [], .slice none 0 0, .slice none 0 0) :=
 .mk _ (fun _ => (.nilIface, .nilIface)) (NamS.nil w S) ⟨none, 0, rfl, Nat.le_refl _, Nat.zero_le _, fun h => by simp [J.l] at h⟩ (fun i j h => by simp [J.l] at h)
/-! ### rows of the call's own -/
def jrow (rs : List JR) : List Value := rs.flatMap jcells
theorem jrow_len (rs : List JR) : (jrow rs).length = rs.length * 8 := by
 induction rs with
 | nil => rfl
 | cons d l ih => rw [List.length_cons, Nat.add_mul, ← ih]; simp [jrow, jcells]
theorem jrow_app (xs ys : List JR) : jrow (xs ++ ys) = jrow xs ++ jrow ys := by simp [jrow]
theorem jrow_at (rs : List JR) : ∀ (j : Nat) (r : JR), rs[j]? = some r → ∀ i, i < 8 → (jrow rs)[j * 8 + i]? = (jcells r)[i]? := by
 induction rs with
 | nil => intro j r h; simp at h
 | cons d l ih =>
  intro j r h i hi
  have e : jrow (d :: l) = jcells d ++ jrow l := rfl
  have hl : (jcells d).length = 8 := rfl
  cases j with
  | zero =>
   simp only [List.getElem?_cons_zero, Option.some.injEq] at h
   subst h
   rw [e, Nat.zero_mul, Nat.zero_add, List.getElem?_append_left (by omega)]
  | succ j =>
   simp only [List.getElem?_cons_succ] at h
   have h1 := ih j r h i hi
   rw [e, List.getElem?_append_right (by omega), hl, show (j + 1) * 8 + i - 8 = j * 8 + i by omega]
   exact h1
theorem ownsRow_ne {w : World} {B B' : Nat} {e e' : TypeId} {s s' : Nat} {v v' : Value} {n n' : Nat} {xs xs' : List Value} (h : w.ownsRow B e s v n xs) (h' : w.ownsRow B' e' s' v' n' xs') (he : e ≠ e') (k : Nat) (hk : v.ownBlock = some k) : v'.ownBlock ≠ some k := by
 intro hk'
 rcases h.2 with ⟨hn, _⟩ | ⟨g, cap, cur, rfl, _, h2, _⟩
 ·rw [hn] at hk; cases hk
 rcases h'.2 with ⟨hn, _⟩ | ⟨g', cap', cur', rfl, _, h2', _⟩
 ·rw [hn] at hk'; cases hk'
 cases hk; cases hk'
 rw [h2] at h2'
 simp only [Option.some.injEq, Obj.cells.injEq] at h2'
 exact he h2'.2.1
structure JsV (w : World) (B : Nat) (S : Nat → Prop) (v : Value) (rs : List JR) : Prop where
 row : w.ownsRow B 30 8 v rs.length (jrow rs)
 each : ∀ r ∈ rs, JV w (fun k => S k ∧ v.ownBlock ≠ some k) r
theorem JsV.nil (w : World) (B : Nat) (S : Nat → Prop) : JsV w B S (.slice none 0 0) [] := ⟨World.ownsRow_nil _ _ _ _, by simp⟩
theorem JsV.apart {S T : Nat → Prop} {w w' : World} {B : Nat} {v : Value} {rs : List JR} (h : JsV w B S v rs) (ha : Apart T w w') (h1 : ∀ k, v.ownBlock = some k → ¬ T k) (h2 : ∀ k, S k → k < w.heap.size → ¬ T k) : JsV w' B S v rs :=
 ⟨ownsRow_apart h.row ha h1, fun r hr => (h.each r hr).apart ha (fun k hk hl => h2 k hk.1 hl)⟩
theorem JsV.below {w w' : World} {B : Nat} {S : Nat → Prop} {v : Value} {rs : List JR} (h : JsV w B S v rs) (hb : Below w.heap.size w w') : JsV w' B S v rs := h.apart (T := fun _ => False) (.ofBelow hb) (fun _ _ h => h) (fun _ _ _ h => h)
theorem JsV.mono {w : World} {B : Nat} {S S' : Nat → Prop} {v : Value} {rs : List JR} (h : JsV w B S v rs) (hS : ∀ k, k < w.heap.size → S k → S' k) : JsV w B S' v rs :=
 ⟨h.row, fun r hr => (h.each r hr).mono (fun k hk hs => ⟨hS k hk hs.1, hs.2⟩)⟩
theorem JsV.lt {w : World} {B : Nat} {S : Nat → Prop} {v : Value} {rs : List JR} (h : JsV w B S v rs) {k : Nat} (hk : v.ownBlock = some k) : B ≤ k ∧ k < w.heap.size := World.ownsRow.lt h.row k hk
theorem JsV.forms {w : World} {B : Nat} {S : Nat → Prop} {v : Value} {rs : List JR} (h : JsV w B S v rs) : ∃ p cap, v = .slice p rs.length cap := by
 rcases h.row.2 with ⟨hn, h2⟩ | ⟨g', cap, cur, e, _⟩
 ·exact ⟨none, 0, by rw [hn, h2]⟩
 exact ⟨_, cap, e⟩
def txts (ns : List (List UInt8)) : List Value := ns.map (fun s => Value.string ⟨s.toArray⟩)
def NamV (w : World) (B : Nat) (v : Value) (ns : List (List UInt8)) : Prop := w.ownsRow B 9 1 v ns.length (txts ns)
theorem NamV.nil (w : World) (B : Nat) : NamV w B (.slice none 0 0) [] := World.ownsRow_nil _ _ _ _
theorem NamV.apart {S : Nat → Prop} {w w' : World} {B : Nat} {v : Value} {ns : List (List UInt8)} (h : NamV w B v ns) (ha : Apart S w w') (hS : ∀ k, B ≤ k → k < w.heap.size → ¬ S k) : NamV w' B v ns :=
 ownsRow_apart h ha (fun k hk => hS k (World.ownsRow.lt h k hk).1 (World.ownsRow.lt h k hk).2)
theorem NamV.below {w w' : World} {B : Nat} {v : Value} {ns : List (List UInt8)} (h : NamV w B v ns) (hb : Below w.heap.size w w') : NamV w' B v ns := h.apart (S := fun _ => False) (.ofBelow hb) (fun _ _ _ h => h)
theorem NamV.forms {w : World} {B : Nat} {v : Value} {ns : List (List UInt8)} (h : NamV w B v ns) : ∃ p cap, v = .slice p ns.length cap := by
 rcases h.2 with ⟨hn, h2⟩ | ⟨g', cap, cur, e, _⟩
 ·exact ⟨none, 0, by rw [hn, h2]⟩
 exact ⟨_, cap, e⟩
theorem NamV.s {w : World} {B : Nat} {v : Value} {ns : List (List UInt8)} (h : NamV w B v ns) : NamS w (fun k => B ≤ k) v ns := by
 have h0 := h
 rcases h.2 with ⟨hn, h2⟩ | ⟨g, cap, cur, rfl, h1, hgg, h3, h4, h5, h6⟩
 ·exact ⟨none, 0, by rw [hn, h2], by omega, by omega, fun h => by omega⟩
 refine ⟨_, cap, rfl, h3, by omega, fun _ => ⟨g, 0, rfl, ⟨h1, .inr ⟨rfl, cur, hgg⟩⟩, (Array.getElem?_eq_some_iff.1 hgg).1, fun i s hi => ?_⟩⟩
 have hi2 := (List.getElem?_eq_some_iff.1 hi).1
 rw [Nat.zero_add, World.ownsRow.cellAt h0 i (by omega)]
 unfold txts
 rw [List.getElem?_map, hi]; rfl
theorem JV.ofRows {w : World} {B : Nat} {S : Nat → Prop} {lv nv : Value} {rs : List JR} {ns : List (List UInt8)} (k : Int) (hS : ∀ k, S k → B ≤ k) (hl : JsV w B S lv rs) (hn : NamV w B nv ns) : JV w (fun k => B ≤ k) (.mk k false Dec.zero [] (rs.map (·.1)) ns, lv, nv) := by
 refine .mk _ (fun i => ((rs[i]?).getD (J.zero, .nilIface, .nilIface)).2) hn.s ?_ (fun i j hi => ?_)
 ·have h0 := hl.row
  simp only [J.l, List.length_map]
  rcases hl.row.2 with ⟨hn, h2⟩ | ⟨g, cap, cur, rfl, h1, hgg, h3, h4, h5, h6⟩
  ·exact ⟨none, 0, by rw [hn, h2], by omega, by omega, fun h => by omega⟩
  refine ⟨_, cap, rfl, h3, by omega, fun _ => ⟨g, 0, rfl, ⟨h1, .inr ⟨rfl, cur, hgg⟩⟩, (Array.getElem?_eq_some_iff.1 hgg).1, fun i j hi c hc => ?_⟩⟩
  rw [List.getElem?_map] at hi
  cases hr : rs[i]? with
  | none => rw [hr] at hi; cases hi
  | some r =>
   rw [hr] at hi
   simp only [Option.map_some, Option.some.injEq] at hi
   subst hi
   have hi2 := (List.getElem?_eq_some_iff.1 hr).1
   have h7 := World.ownsRow.cellAt h0 (i * 8 + c) (show i * 8 + c < rs.length * 8 by omega)
   rw [Nat.zero_add, h7]
   simp only [Option.getD_some]
   exact jrow_at rs i r hr c hc
 simp only [J.l] at hi
 rw [List.getElem?_map] at hi
 cases hr : rs[i]? with
 | none => rw [hr] at hi; cases hi
 | some r =>
  rw [hr] at hi
  simp only [Option.map_some, Option.some.injEq] at hi
  subst hi
  simp only [Option.getD_some]
  exact (hl.each r (List.mem_of_getElem? hr)).mono (fun k _ hk => hS k hk.1)
theorem Tryz.info30 : (Tryz.prog.info? 30).map (fun i => (i.zero, i.size, i.bytes)) = some (some (.agg #[.int .i64 0, .bool false, .bool false, .string .empty, .int .i64 0, .string .empty, .slice none 0 0, .slice none 0 0]), 8, 112) := by kernel_rfl
theorem Tryz.info9 : (Tryz.prog.info? 9).map (fun i => (i.zero, i.size, i.bytes)) = some (some (.string .empty), 1, 16) := by kernel_rfl
theorem JV.slices {w : World} {S : Nat → Prop} {r : JR} (h : JV w S r) : ∃ p1 c1 p2 c2, r.2.1 = .slice p1 r.1.l.length c1 ∧ r.2.2 = .slice p2 r.1.ns.length c2 := by
 cases h with
 | mk _ xs hn hl hs =>
  obtain ⟨p2, c2, h2, _⟩ := hn
  obtain ⟨p1, c1, h1, _⟩ := hl
  exact ⟨p1, c1, p2, c2, h1, h2⟩
theorem JV.one {w : World} {S : Nat → Prop} {r : JR} (h : JV w S r) : ∀ u ∈ jcells r, u.oneCell' = true := by
 obtain ⟨p1, c1, p2, c2, h1, h2⟩ := h.slices
 intro u hu
 simp only [jcells, List.mem_cons, List.not_mem_nil, or_false] at hu
 rcases hu with rfl | rfl | rfl | rfl | rfl | rfl | rfl | rfl
 ·rfl
 ·rfl
 ·rfl
 ·rfl
 ·rfl
 ·rfl
 ·rw [h1]; rfl
 rw [h2]; rfl
theorem append_fresh {P : Program} {w : World} {base : Nat} {t ty e : TypeId} {i : TypeInfo} {z : Value} {size bytes : Nat} (ht : P.underlying t = some (.slice e)) (hi : P.info? e = some i) (hz : i.zero = some z)
  (hsize : i.size = size) (hby : i.bytes = bytes) (hzs : z.cells.size = size) (hsz : 0 < size) {v : Value} {n : Nat} {xs : List Value} (hown : w.ownsRow base e size v n xs)
  {a : Addr} {m c : Nat} {news : List Value} (hl : news.length = m * size) (hnews : ∀ j u, news[j]? = some u → w.cell? (a.add j) = some u) (h1 : ∀ u ∈ news, u.oneCell' = true)
  (h63 : n + m ≤ maxLen) (hbytes : (n + m) * bytes ≤ 140737488355328) {v' : Value} {w' : World} (hrun : (Builtin.append_ #[t, t] ty #[v, .slice (some a) m c]).run P w = .ok v' w') :
  ∀ k, v'.ownBlock = some k → v.ownBlock = some k ∨ w.heap.size ≤ k := by
 intro k hk
 rcases hown.2 with ⟨rfl, hn⟩ | ⟨g0, cap0, cur, rfl, hb, hh, hc, hcm, hcs, htk⟩
 ·obtain ⟨v2, w2, h2, ho, _⟩ := run_append_own (P := P) w w.heap.size t ty e i z size bytes ht hi hz hsize hby hzs hsz (.slice none 0 0) 0 [] (World.ownsRow_nil w _ e size) a m c news hl hnews h1 (by omega) (by rw [hn] at hbytes; exact hbytes) (Nat.le_refl _)
  rw [hrun] at h2
  cases h2
  exact .inr (World.ownsRow.lt ho k hk).1
 ·by_cases hr : n + m ≤ cap0
  ·have h2 := run_append_room_cells (P := P) w t ty e i ht hi g0 0 n cap0 a m c news (by rw [hsize]; exact hl) hnews h1 hr
    (fun j hj => by
     have hlt : 0 + n * i.size + j < cur.size := by
      rw [hcs, hsize, Nat.zero_add]
      rw [hl] at hj
      have : (n + m) * size ≤ cap0 * size := Nat.mul_le_mul_right _ hr
      rw [Nat.add_mul] at this
      omega
     unfold World.cell?
     simp only [hh]
     rw [Array.getElem?_eq_getElem hlt]
     rfl)
    (fun j hj => World.ownsRow.frozenAt hown _)
   rw [hrun] at h2
   cases h2
   exact .inl hk
  obtain ⟨v2, w2, h2, ho, _⟩ := run_append_arg_grows (P := P) w t ty e i z size bytes ht hi hz hsize hby hzs hsz ⟨g0, 0, none⟩ n cap0 xs hown.1 (fun j u hj => by rw [addr_off rfl, Nat.zero_add, World.ownsRow.cellAt hown j (by have := (List.getElem?_eq_some_iff.1 hj).1; rw [hown.1] at this; exact this)]; exact hj) a m c news hl hnews (by omega) h63 hbytes
  rw [hrun] at h2
  cases h2
  exact .inr (World.ownsRow.lt ho k hk).1
theorem run_append_json (w : World) (ty : TypeId) {B : Nat} {S : Nat → Prop} {v : Value} {rs : List JR} (hv : JsV w B S v rs) (r : JR) (hr : JV w (fun k => S k ∧ v.ownBlock ≠ some k) r) (g cap : Nat) (hx : ∀ i, i < 8 → w.cell? ⟨g, i, none⟩ = (jcells r)[i]?) (hlen : rs.length ≤ 100000001) (hB : B ≤ w.heap.size) :
  ∃ v' w', (Builtin.append_ #[27, 27] ty #[v, .slice (some ⟨g, 0, none⟩) 1 cap]).run Tryz.prog w = .ok v' w' ∧ JsV w' B S v' (rs ++ [r]) ∧ w.grownBy w' v.ownBlock ∧ ∀ k, v'.ownBlock = some k → v.ownBlock = some k ∨ w.heap.size ≤ k := by
 obtain ⟨i0, hi, hz0, hz1, hz2⟩ := info_parts Tryz.info30
 have hcs : ∀ (j : Nat) u, (jcells r)[j]? = some u → w.cell? ((⟨g, 0, none⟩ : Addr).add j) = some u := by
  intro j u hj
  have hj2 := (List.getElem?_eq_some_iff.1 hj).1
  rw [addr_off rfl, Nat.zero_add, hx j hj2, hj]
 obtain ⟨v', w', h1, h2, h3, _⟩ := run_append_own (P := Tryz.prog) w B 27 ty 30 i0 _ 8 112 Tryz.underlying27 hi hz0 hz1 hz2 rfl (by decide) v rs.length (jrow rs) hv.row ⟨g, 0, none⟩ 1 cap (jcells r) rfl hcs hr.one (by unfold maxLen; omega) (by omega) hB
 have h4 := append_fresh Tryz.underlying27 hi hz0 hz1 hz2 rfl (by decide) hv.row (m := 1) rfl hcs hr.one (by unfold maxLen; omega) (by omega) h1
 refine ⟨v', w', h1, ⟨by rw [jrow_app, List.length_append]; simpa [jrow] using h2, fun q hq => ?_⟩, h3, h4⟩
 have hq2 : JV w (fun k => S k ∧ v.ownBlock ≠ some k) q := by
  rcases List.mem_append.1 hq with hq | hq
  ·exact hv.each q hq
  rw [List.mem_singleton.1 hq]; exact hr
 have hq3 : JV w (fun k => (S k ∧ v.ownBlock ≠ some k) ∧ k < w.heap.size) q := hq2.mono (fun k hk hs => ⟨hs, hk⟩)
 have hq4 := hq3.apart (Apart.ofGrown (S := fun k => v.ownBlock = some k) h3 (fun k hk => hk)) (fun k hk _ h9 => hk.1.2 h9)
 refine hq4.mono (fun k _ hk => ⟨hk.1.1, fun h9 => ?_⟩)
 rcases h4 k h9 with h8 | h8
 ·exact hk.1.2 h8
 ·have := hk.2; omega
theorem oper_append_json {w : World} {o : Oper} {a : Act} {Q : Exit → Act → World → Prop} {K : Act → World → Prop} (s x : Operand)
  (ho : o.op = .call { callee := .builtin .append, args := #[s, x], argTypes := #[27, 27] })
  (B : Nat) (S : Nat → Prop) (v : Value) (rs : List JR) (hs : a.eval s = v) (hv : JsV w B S v rs) (r : JR) (hr : JV w (fun k => S k ∧ v.ownBlock ≠ some k) r) (g cap : Nat) (hx : a.eval x = .slice (some ⟨g, 0, none⟩) 1 cap) (hc : ∀ i, i < 8 → w.cell? ⟨g, i, none⟩ = (jcells r)[i]?) (hlen : rs.length ≤ 100000001) (hB : B ≤ w.heap.size)
  (hK : ∀ v' w', JsV w' B S v' (rs ++ [r]) → w.grownBy w' v.ownBlock → (∀ k, v'.ownBlock = some k → v.ownBlock = some k ∨ w.heap.size ≤ k) → K (a.put o.dst v') w') :
  Oper.wp Tryz.prog o a w K Q := by
 obtain ⟨v', w', hrun, h1, h2, h3⟩ := run_append_json w o.type hv r hr g cap hc hlen hB
 unfold Oper.wp
 simp [execOp, ho, resolve, invoke, builtin, hs, hx, hrun, Result.andThen]
 exact hK _ _ h1 h2 h3
theorem run_append_name (w : World) (ty : TypeId) {B : Nat} {v : Value} {ns : List (List UInt8)} (hv : NamV w B v ns) (n : List UInt8) (hlen : ns.length ≤ 100000001) (hB : B ≤ w.heap.size) :
  ∃ v' w', (Builtin.append_ #[28, 28] ty #[v, .slice (some ⟨w.heap.size, 0, none⟩) 1 1]).run Tryz.prog (w.alloc (.cells #[.string ⟨n.toArray⟩] 9)) = .ok v' w' ∧ NamV w' B v' (ns ++ [n]) ∧ (w.alloc (.cells #[.string ⟨n.toArray⟩] 9)).grownBy w' v.ownBlock ∧ ∀ k, v'.ownBlock = some k → v.ownBlock = some k ∨ w.heap.size ≤ k := by
 obtain ⟨i0, hi, hz0, hz1, hz2⟩ := info_parts Tryz.info9
 have hcs : ∀ (j : Nat) u, (txts [n])[j]? = some u → (w.alloc (.cells #[.string ⟨n.toArray⟩] 9)).cell? ((⟨w.heap.size, 0, none⟩ : Addr).add j) = some u := by
  intro j u hj
  rw [addr_off rfl, World.cell?_alloc_at _ _ _ _ rfl, Nat.zero_add]
  simpa [txts] using hj
 have hone : ∀ u ∈ txts [n], u.oneCell' = true := by
  intro u hu
  simp [txts] at hu
  rw [hu]; rfl
 have hown := World.ownsRow.alloc hv (.cells #[.string ⟨n.toArray⟩] 9)
 obtain ⟨v', w', h1, h2, h3, _⟩ := run_append_own (P := Tryz.prog) (w.alloc (.cells #[.string ⟨n.toArray⟩] 9)) B 28 ty 9 i0 _ 1 16 Tryz.underlying28 hi hz0 hz1 hz2 rfl (by decide) v ns.length (txts ns) hown ⟨w.heap.size, 0, none⟩ 1 1 (txts [n]) rfl hcs hone (by unfold maxLen; omega) (by omega) (by simp; omega)
 have h4 := append_fresh Tryz.underlying28 hi hz0 hz1 hz2 rfl (by decide) hown (m := 1) rfl hcs hone (by unfold maxLen; omega) (by omega) h1
 refine ⟨v', w', h1, ?_, h3, fun k hk => ?_⟩
 ·unfold NamV
  rw [List.length_append, show txts (ns ++ [n]) = txts ns ++ txts [n] by simp [txts]]
  exact h2
 ·rcases h4 k hk with h5 | h5
  ·exact .inl h5
  rw [World.size_alloc] at h5; exact .inr (by omega)
theorem wpList_append_name {w : World} {ops : Array Oper} {rest : List Oper} {o : Oper} {a : Act} {Q : Exit → Act → World → Prop} (hgd : o.guard = none) (s x : Operand)
  (ho : o.op = .call { callee := .builtin .append, args := #[s, x], argTypes := #[28, 28] })
  (B : Nat) (v : Value) (ns : List (List UInt8)) (hv : a.eval s = v) (hown : NamV w B v ns) (n : List UInt8)
  (G : Nat) (hx : a.eval x = .slice (some ⟨G, 0, none⟩) 1 1) (hG : G = w.heap.size) (hlen : ns.length ≤ 100000001) (hbase : B ≤ w.heap.size)
  (hK : ∀ v' w', NamV w' B v' (ns ++ [n]) → (w.alloc (.cells #[.string ⟨n.toArray⟩] 9)).grownBy w' v.ownBlock → (∀ k, v'.ownBlock = some k → v.ownBlock = some k ∨ w.heap.size ≤ k) → wpList Tryz.prog ops Q rest (a.put o.dst v') w') :
  wpList Tryz.prog ops Q (o :: rest) a (w.alloc (.cells #[.string ⟨n.toArray⟩] 9)) := by
 subst hG
 refine wpList_plain hgd fun K hK' => ?_
 obtain ⟨v', w', hrun, h1, h2, h3⟩ := run_append_name w o.type hown n hlen hbase
 unfold Oper.wp
 simp [execOp, ho, resolve, invoke, builtin, hv, hx, hrun, Result.andThen]
 exact hK' _ _ (hK _ _ h1 h2 h3)
end Go.Proofs.YtfclfaidmipjpaaGreatDoor
