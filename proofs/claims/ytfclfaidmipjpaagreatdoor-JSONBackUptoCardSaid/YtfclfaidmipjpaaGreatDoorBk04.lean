/- Texts of this claim, joined: Pgt, Pgv, Pgw, Psz. -/
import Derived.Test.YtfclfaidmipjpaaGreatDoorBk03
namespace Go.Proofs.YtfclfaidmipjpaaGreatDoor
set_option maxRecDepth 100000
set_option maxHeartbeats 20000000
theorem ofNat_nat {n : Nat} (h : n < 256) : (UInt8.ofNat n).toNat = n := by
 rw [UInt8.toNat_ofNat']; omega
theorem letS_valid (x : Nat) (hx : x < 1114112) (hs : ¬ (55296 ≤ x ∧ x < 57344)) (t : List UInt8) : Lib.validD (letS x ++ t) = Lib.validD t := by
 unfold letS
 split
 ·rename_i h
  exact Lib.validD_cons _ _ (by rw [ofNat_nat (by omega)]; exact h)
 split
 ·rename_i h1 h2
  have e : Lib.decodeL ([UInt8.ofNat (192 + x / 64), UInt8.ofNat (128 + x % 64)] ++ t) = (x, 2) := by
   show Lib.decodeL (UInt8.ofNat (192 + x / 64) :: UInt8.ofNat (128 + x % 64) :: t) = _
   rw [decodeL_eq]
   simp only [List.getD_cons_zero, List.length_cons]
   rw [ofNat_nat (by omega), ofNat_nat (by omega), dec_two (by omega) (by omega) (by omega) (by omega)]
   congr 1; omega
  rw [Lib.validD_step _ (by simp), e, if_neg (by simp)]
  rfl
 split
 ·rename_i h1 h2 h3
  have e : Lib.decodeL ([UInt8.ofNat (224 + x / 4096), UInt8.ofNat (128 + x / 64 % 64), UInt8.ofNat (128 + x % 64)] ++ t) = (x, 3) := by
   show Lib.decodeL (UInt8.ofNat (224 + x / 4096) :: UInt8.ofNat (128 + x / 64 % 64) :: UInt8.ofNat (128 + x % 64) :: t) = _
   rw [decodeL_eq]
   simp only [List.getD_cons_zero, List.getD_cons_succ, List.length_cons]
   rw [ofNat_nat (by omega), ofNat_nat (by omega), ofNat_nat (by omega)]
   rw [dec_three (by omega) (by omega) (by omega) (by omega) (by omega) (by omega)]
   congr 1; omega
  rw [Lib.validD_step _ (by simp), e, if_neg (by simp)]
  rfl
 ·rename_i h1 h2 h3
  have e : Lib.decodeL ([UInt8.ofNat (240 + x / 262144), UInt8.ofNat (128 + x / 4096 % 64), UInt8.ofNat (128 + x / 64 % 64), UInt8.ofNat (128 + x % 64)] ++ t) = (x, 4) := by
   show Lib.decodeL (UInt8.ofNat (240 + x / 262144) :: UInt8.ofNat (128 + x / 4096 % 64) :: UInt8.ofNat (128 + x / 64 % 64) :: UInt8.ofNat (128 + x % 64) :: t) = _
   rw [decodeL_eq]
   simp only [List.getD_cons_zero, List.getD_cons_succ, List.length_cons]
   rw [ofNat_nat (by omega), ofNat_nat (by omega), ofNat_nat (by omega), ofNat_nat (by omega)]
   rw [dec_four (by omega) (by omega) (by omega) (by omega) (by omega) (by omega) (by omega)]
   congr 1; omega
  rw [Lib.validD_step _ (by simp), e, if_neg (by simp)]
  rfl
theorem hexV_low {c : UInt8} {d : Nat} (h : hexV c = some d) : c.toNat < 128 ∧ d < 16 := by
 unfold hexV at h
 split at h
 ·cases h; omega
 split at h
 ·cases h; omega
 split at h
 ·cases h; omega
 ·cases h
theorem hexN_low : ∀ (n x : Nat) (s : List UInt8) (y : Nat) (r : List UInt8), hexN n x s = some (y, r) → (∃ p, s = p ++ r ∧ ∀ c ∈ p, c.toNat < 128) ∧ y < 16 ^ n * (x + 1)
 | 0, x, s, y, r, h => by simp [hexN] at h; exact ⟨⟨[], by simp [h.2], by simp⟩, by omega⟩
 | n + 1, x, [], y, r, h => by simp [hexN] at h
 | n + 1, x, c :: t, y, r, h => by
  rw [hexN] at h
  split at h
  ·cases h
  ·rename_i d hd
   obtain ⟨⟨p, h1, h2⟩, h3⟩ := hexN_low n _ t y r h
   obtain ⟨h4, h5⟩ := hexV_low hd
   refine ⟨⟨c :: p, by rw [h1]; rfl, fun c2 hc => ?_⟩, ?_⟩
   ·rcases List.mem_cons.1 hc with rfl | hc
    ·exact h4
    ·exact h2 _ hc
   ·rw [Nat.pow_succ]
    have : 16 ^ n * (16 * x + d + 1) ≤ 16 ^ n * (16 * (x + 1)) := Nat.mul_le_mul_left _ (by omega)
    rw [Nat.mul_assoc]
    omega
theorem letS_len4 (x : Nat) : (letS x).length ≤ 4 := by
 unfold letS
 split
 ·simp
 split
 ·simp
 split
 ·simp
 ·simp
theorem plain_low {c m : UInt8} (h : plainS c = some m) : c.toNat < 128 ∧ m.toNat < 128 := by
 unfold plainS at h
 repeat' split at h
 all_goals first | (cases h; rename_i e; subst e; decide) | cases h
theorem esc_valid {z s b r : List UInt8} (h : escS z s = some (b, r, false)) (hv : Lib.validD s = true) : (∀ t, Lib.validD (b ++ t) = Lib.validD t) ∧ Lib.validD r = true ∧ b.length + r.length ≤ s.length := by
 cases s with
 | nil => simp [escS] at h
 | cons c t =>
  rw [escS] at h
  split at h
  ·rename_i m hm
   simp only [Option.some.injEq, Prod.mk.injEq] at h
   obtain ⟨rfl, rfl, -⟩ := h
   obtain ⟨h1, h2⟩ := plain_low hm
   rw [Lib.validD_cons c t h1] at hv
   exact ⟨fun t => Lib.validD_cons m t h2, hv, by simp; omega⟩
  ·split at h
   ·rename_i hu
    split at h
    ·cases h
    ·rename_i x t2 hx
     obtain ⟨⟨p, h1, h2⟩, h3⟩ := hexN_low 4 0 t x t2 hx
     have hl := hexN_len 4 0 t x t2 hx
     subst hu
     rw [Lib.validD_cons _ _ (by decide), h1, valid_low p t2 h2] at hv
     split at h
     ·rename_i hx2
      split at h
      ·rename_i bs t4 hp
       simp only [Option.some.injEq, Prod.mk.injEq] at h
       obtain ⟨rfl, rfl, -⟩ := h
       unfold pairS at hp
       split at hp
       ·rename_i hx3
        split at hp
        ·rename_i t3
         split at hp
         ·rename_i y t5 hy
          split at hp
          ·rename_i hy2
           simp only [Option.some.injEq, Prod.mk.injEq] at hp
           obtain ⟨rfl, rfl⟩ := hp
           obtain ⟨⟨q, g1, g2⟩, g3⟩ := hexN_low 4 0 t3 y t5 hy
           have hl2 := hexN_len 4 0 t3 y t5 hy
           rw [Lib.validD_cons _ _ (by decide), Lib.validD_cons _ _ (by decide), g1, valid_low q _ g2] at hv
           have hln := letS_len4 (65536 + 1024 * (x - 55296) + y - 56320)
           refine ⟨fun t => letS_valid _ (by omega) (by omega) t, hv, ?_⟩
           simp only [List.length_cons] at hl ⊢; omega
          ·cases hp
         ·cases hp
        ·cases hp
       ·cases hp
      ·simp at h
     ·rename_i hx2
      simp only [Option.some.injEq, Prod.mk.injEq] at h
      obtain ⟨rfl, rfl, -⟩ := h
      have hln := letS_len4 x
      exact ⟨fun t => letS_valid _ (by omega) hx2 t, hv, by simp only [List.length_cons]; omega⟩
   ·cases h
theorem valid_pre : ∀ (n : Nat) (a b : List UInt8), a.length ≤ n → Lib.validD a = true → Lib.validD (a ++ b) = Lib.validD b
 | n, [], b, _, _ => rfl
 | 0, x :: a, b, h, _ => by simp at h
 | n + 1, x :: a, b, h, hv => by
  have hs := Lib.validD_step (x :: a) (by simp)
  rw [hv] at hs
  split at hs
  ·cases hs
  ·rename_i hb
   have h1 := dec_stable (x :: a) ((x :: a).drop (Lib.decodeL (x :: a)).2 ++ b) (by simp) hb
   rw [← List.append_assoc, List.take_append_drop] at h1
   have h2 : 1 ≤ (Lib.decodeL (x :: a)).2 ∧ (Lib.decodeL (x :: a)).2 ≤ (x :: a).length := dec_len x a hb
   rw [Lib.validD_step (x :: a ++ b) (by simp), h1, if_neg hb, List.drop_append_of_le_length h2.2]
   exact valid_pre n _ b (by rw [List.length_drop]; simp only [List.length_cons] at h h2 ⊢; omega) hs.symm
theorem stroke_split : ∀ s : List UInt8, (∀ c ∈ s, c ≠ 92) ∨ ∃ x y, s = x ++ 92 :: y ∧ ∀ c ∈ x, c ≠ 92
 | [] => .inl (by simp)
 | c :: t => by
  by_cases h : c = 92
  ·exact .inr ⟨[], t, by simp [h], by simp⟩
  ·rcases stroke_split t with h1 | ⟨x, y, rfl, h2⟩
   ·exact .inl (fun d hd => by rcases List.mem_cons.1 hd with rfl | hd; exact h; exact h1 d hd)
   ·exact .inr ⟨c :: x, y, rfl, fun d hd => by rcases List.mem_cons.1 hd with rfl | hd; exact h; exact h2 d hd⟩
theorem un_valid (z : List UInt8) : ∀ (n : Nat) (s u : List UInt8), s.length ≤ n → unS z s = some (u, false) → Lib.validD s = true → Lib.validD u = true ∧ u.length ≤ s.length
 | n, [], u, _, h, _ => by
  rw [unS_nil] at h
  simp only [Option.some.injEq, Prod.mk.injEq] at h
  rw [← h.1]; exact ⟨rfl, Nat.le_refl _⟩
 | 0, c :: s, u, hn, _, _ => by simp at hn
 | n + 1, c :: s, u, hn, h, hv => by
  rcases stroke_split (c :: s) with h1 | ⟨x, y, hxy, h1⟩
  ·have h2 := unS_chunk (z := z) (c :: s) [] h1
   rw [List.append_nil, h, unS_nil] at h2
   simp at h2
   rw [h2]; exact ⟨hv, Nat.le_refl _⟩
  ·rw [hxy] at h hv hn ⊢
   rw [unS_chunk x _ h1, unS_esc] at h
   obtain ⟨hv1, hv2⟩ := valid_app (by decide) hv
   split at h
   ·simp at h
   ·rename_i b r a he
    cases hu : unS z r with
    | none => rw [hu] at h; simp at h
    | some q =>
     obtain ⟨u2, a2⟩ := q
     rw [hu] at h
     simp at h
     obtain ⟨h3, ha, ha2⟩ := h
     subst ha ha2
     obtain ⟨e1, e2, e3⟩ := esc_valid he hv2
     have e4 := esc_len he
     have ih := un_valid z n r u2 (by simp at hn; omega) hu e2
     rw [← h3]
     refine ⟨?_, ?_⟩
     ·rw [valid_pre x.length x _ (Nat.le_refl _) hv1, e1]; exact ih.1
     ·simp only [List.length_append, List.length_cons]; omega
theorem made_dig (neg : Bool) (l : List UInt8) (e : Int) : (madeS neg l e).1.digits.length ≤ l.length := by
 unfold madeS
 split
 ·exact Nat.zero_le _
 split
 ·exact Nat.le_trans (trimR_len _) (trim0_len _)
 ·exact Nat.zero_le _
theorem end_dig (neg : Bool) (a : List UInt8) (e : Int) (r : List UInt8) : (parseEnd neg a e r).1.digits.length ≤ a.length := by
 unfold parseEnd
 split
 ·exact made_dig _ _ _
 ·exact Nat.zero_le _
theorem e_dig (neg : Bool) (a : List UInt8) (e : Int) (r : List UInt8) : (parseE neg a e r).1.digits.length ≤ a.length := by
 unfold parseE
 split
 ·exact end_dig _ _ _ _
 split
 ·exact Nat.zero_le _
 ·exact end_dig _ _ _ _
theorem p_dig (neg : Bool) (a r : List UInt8) : (parseP neg a r).1.digits.length ≤ a.length + r.length := by
 unfold parseP
 split
 ·split
  ·exact Nat.zero_le _
  ·refine Nat.le_trans (e_dig _ _ _ _) ?_
   have h1 := digs_len (oneS [46] r).2
   have h2 := one_len [46] r
   rw [List.length_append]; omega
 ·exact Nat.le_trans (e_dig _ _ _ _) (Nat.le_add_right _ _)
theorem parse_dig (l : List UInt8) : (parseS l).1.digits.length ≤ l.length := by
 unfold parseS
 split
 ·exact Nat.zero_le _
 ·unfold parseA
  have h2 := one_len [45] l
  split
  ·exact Nat.zero_le _
  ·refine Nat.le_trans (p_dig _ _ _) ?_
   have h1 := digs_len (oneS [45] l).2
   omega
theorem text_len {d : Dec} (h : mayB d = true) : (textT d).length ≤ d.digits.length + 25 := by
 have key : (textA d).length ≤ d.digits.length + 24 := by
  by_cases hne : d.digits = []
  ·obtain rfl := may_nil h hne
   decide
  ·obtain ⟨c, t, hd, hdig, hl, hc, hlast, h1, h2⟩ := may_cons h hne
   have hn : d.digits.length = t.length + 1 := by rw [hd]; rfl
   unfold textA
   rw [if_neg (by omega)]
   split
   ·rw [List.length_append, List.length_replicate]; omega
   split
   ·rw [List.length_append, List.length_take, List.length_cons, List.length_drop]; omega
   split
   ·simp only [List.length_cons, List.length_append, List.length_replicate]; omega
   ·have hil := Lib.itoa_length_le ((d.digits.length : Int) + d.exp - 1) (by omega) (by omega)
    rw [List.length_append, List.length_cons]
    split
    ·rw [List.length_append, List.length_take, List.length_cons, List.length_drop]; omega
    ·omega
 unfold textT
 split
 ·rw [List.length_cons]; omega
 ·omega
def Fine (f : Fl) : Prop := f.deep = false ∧ f.alone = false ∧ f.twice = false ∧ f.great = false
theorem num_fine {s r : List UInt8} {f f2 : Fl} {v : J} (h : numS s f = some (v, r, f2)) (hf : Fine f2) (hv : Lib.validD s = true) : Fine f ∧ goodJ v = true ∧ deepJ v = 0 ∧ Lib.validD r = true ∧ (toldJ v).length + 26 * r.length ≤ 26 * s.length := by
 obtain ⟨g1, g2, g3, g4, g5⟩ := num_some h
 have hlt := num_len h
 obtain ⟨f1, f2', f3, f4⟩ := hf
 rw [g5] at f1 f2' f3 f4
 simp only [Bool.or_eq_false_iff, bne_eq_false_iff_eq] at f4
 have hmay := parse_may _ f4.2
 have hdig := parse_dig (s.takeWhile numB)
 have htl := text_len hmay
 have hlen : (s.takeWhile numB).length + r.length = s.length := by rw [← List.length_append, ← g3]
 refine ⟨⟨f1, f2', f3, f4.1⟩, ?_, by rw [g4]; rfl, ?_, ?_⟩
 ·rw [g4]
  simp [goodJ, headB, badK, okK, bareB, bareN, bareT, deepK, goodL, hmay, sameB, Lib.validD_nil]
 ·rw [g3, valid_low _ _ (fun c hc => numB_low c (List.all_eq_true.1 List.all_takeWhile c hc))] at hv
  exact hv
 ·rw [g4]
  have e : (toldJ (.mk 2 false (parseS (List.takeWhile numB s)).1 [] [] [])).length = (textT (parseS (List.takeWhile numB s)).1).length := by simp [toldJ, textS, hmay]
  rw [e]
  omega
theorem qt_valid {z s u r : List UInt8} (h : qtS z s = some (u, r, false)) (hv : Lib.validD s = true) : Lib.validD u = true ∧ Lib.validD r = true ∧ u.length + r.length + 1 ≤ s.length := by
 obtain ⟨body, h1, h2⟩ := qtS_un h
 rw [h1] at hv
 obtain ⟨v1, v2⟩ := valid_app (by decide) hv
 obtain ⟨u1, u2⟩ := un_valid z _ body u (Nat.le_refl _) h2 v1
 refine ⟨u1, v2, ?_⟩
 rw [h1]; simp only [List.length_append, List.length_cons]; omega
theorem blank_low (c : UInt8) (h : blankB c = true) : c.toNat < 128 := by
 have key : ∀ n : Nat, n < 256 → blankB (UInt8.ofNat n) = true → n < 128 := by decide +kernel
 have := key c.toNat c.toNat_lt
 rw [UInt8.ofNat_toNat] at this
 exact this h
theorem skip_valid (s : List UInt8) : Lib.validD (skipS s) = Lib.validD s := by
 have h : s = s.takeWhile blankB ++ skipS s := List.takeWhile_append_dropWhile.symm
 conv => rhs; rw [h]
 rw [valid_low _ _ (fun c hc => blank_low c (List.all_eq_true.1 List.all_takeWhile c hc))]
theorem skip_tail {s t : List UInt8} {c : UInt8} (h : skipS s = c :: t) (hc : c.toNat < 128) (hv : Lib.validD s = true) : Lib.validD t = true := by
 rw [← skip_valid, h, Lib.validD_cons c t hc] at hv
 exact hv
theorem name_fine {z s s2 : List UInt8} {ns ns2 : List (List UInt8)} {f f2 : Fl} (h : nameS z ns s f = some (ns2, s2, f2)) (hf : f2.alone = false) (hf2 : f2.twice = false) (hv : Lib.validD s = true) :
  ∃ u, ns2 = ns ++ [u] ∧ u ∉ ns ∧ Lib.validD u = true ∧ Lib.validD s2 = true ∧ u.length + s2.length + 3 ≤ s.length ∧ f.alone = false ∧ f.twice = false ∧ f2.deep = f.deep ∧ f2.great = f.great := by
 unfold nameS at h
 cases hs : skipS s with
 | nil => rw [hs] at h; cases h
 | cons c t =>
  rw [hs] at h
  simp only at h
  split at h
  ·rename_i hc
   subst hc
   cases hq : qtS z t with
   | none => rw [hq] at h; cases h
   | some x =>
    obtain ⟨u, r, a⟩ := x
    rw [hq] at h
    simp only at h
    cases hr : skipS r with
    | nil => rw [hr] at h; cases h
    | cons c2 r2 =>
     rw [hr] at h
     simp only at h
     split at h
     ·rename_i hc2
      subst hc2
      simp only [Option.some.injEq, Prod.mk.injEq] at h
      obtain ⟨rfl, rfl, rfl⟩ := h
      simp only [Bool.or_eq_false_iff] at hf hf2
      obtain ⟨hf, rfl⟩ := hf
      have ht := skip_tail hs (by decide) hv
      obtain ⟨q1, q2, q3⟩ := qt_valid hq ht
      have hl1 := skip_cons hs
      have hl2 := skip_cons hr
      exact ⟨u, rfl, by have := hf2.2; simpa using this, q1, skip_tail hr (by decide) q2, by omega, hf, hf2.1, rfl, rfl⟩
     ·cases h
  ·cases h
theorem good_list {obj : Bool} {l : List J} {ns : List (List UInt8)} (hg : goodL l = true) (hn : obj = true → ns.length = l.length ∧ ns.Nodup ∧ ∀ u ∈ ns, Lib.validD u = true) (h0 : obj = false → ns = []) : goodJ (listJ obj l ns) = true := by
 have hz : mayB Dec.zero = true := by decide
 cases obj with
 | false =>
  obtain rfl := h0 rfl
  simp [listJ, goodJ, headB, badK, okK, bareB, bareN, bareT, deepK, hg, hz, sameB, Lib.validD_nil]
 | true =>
  obtain ⟨h1, h2, h3⟩ := hn rfl
  have hu := (unlike_iff ns).2 ⟨h2, h3⟩
  simp [listJ, goodJ, headB, badK, okK, bareB, bareN, bareT, deepK, hg, hz, sameB, Lib.validD_nil, h1, hu]
theorem deep_list {obj : Bool} {l : List J} {ns : List (List UInt8)} {d : Nat} (hd : d ≤ 64) (h : ∀ x ∈ l, d + deepJ x ≤ 64) : d + deepJ (listJ obj l ns) ≤ 65 := by
 have hk : deepK (if obj = true then 5 else 4) = 1 := by cases obj <;> rfl
 have := (deepL_iff l (deepK (if obj = true then 5 else 4)) (65 - d)).2 ⟨by rw [hk]; omega, fun x hx => by have := h x hx; omega⟩
 rw [listJ, deepJ]; omega
theorem len_list {obj : Bool} {l : List J} {ns : List (List UInt8)} (hn : obj = true → ns.length = l.length) : (toldJ (listJ obj l ns)).length ≤ lenL l + (if obj then lenN ns else 0) + 2 := by
 have h := toldL_len l obj true ns hn
 rw [listJ, toldJ]
 cases obj with
 | false => simp only [Bool.false_eq_true, if_false] at h ⊢; simp; omega
 | true => simp only [if_true] at h ⊢; simp; omega
theorem lenL_app (l : List J) (x : J) : lenL (l ++ [x]) = lenL l + ((toldJ x).length + 1) := by simp [lenL]
theorem lenN_app (l : List (List UInt8)) (x : List UInt8) : lenN (l ++ [x]) = lenN l + ((quoT x).length + 1) := by simp [lenN]
def ValF (z : List UInt8) (n : Nat) : Prop := ∀ d s f v r f2, valS z n d s f = some (v, r, f2) → Fine f2 → Lib.validD s = true → Fine f ∧ (d ≤ 64 → goodJ v = true ∧ d + deepJ v ≤ 64) ∧ Lib.validD r = true ∧ (toldJ v).length + 26 * r.length ≤ 26 * s.length
def InF (z : List UInt8) (n : Nat) : Prop := ∀ d obj s f v r f2, inS z n d obj s f = some (v, r, f2) → Fine f2 → Lib.validD s = true → Fine f ∧ (d ≤ 64 → goodJ v = true ∧ d + deepJ v ≤ 65) ∧ Lib.validD r = true ∧ (toldJ v).length + 26 * r.length ≤ 26 * s.length + 2
def ItemF (z : List UInt8) (n : Nat) : Prop := ∀ d obj ls ns s f v r f2, itemS z n d obj ls ns s f = some (v, r, f2) → Fine f2 → Lib.validD s = true → (obj = true → ns.length = ls.length ∧ ns.Nodup ∧ ∀ u ∈ ns, Lib.validD u = true) → (obj = false → ns = []) →
 Fine f ∧ Lib.validD r = true ∧ ∃ l2 ns2, v = listJ obj l2 ns2 ∧ (obj = true → ns2.length = l2.length ∧ ns2.Nodup ∧ ∀ u ∈ ns2, Lib.validD u = true) ∧ (obj = false → ns2 = []) ∧ (d ≤ 64 → goodL ls = true → (∀ x ∈ ls, d + deepJ x ≤ 64) → goodL l2 = true ∧ ∀ x ∈ l2, d + deepJ x ≤ 64) ∧
  lenL l2 + (if obj then lenN ns2 else 0) + 26 * r.length ≤ lenL ls + (if obj then lenN ns else 0) + 26 * s.length
theorem endB_low (obj : Bool) : (endB obj).toNat < 128 := by cases obj <;> decide
theorem mem_fine {z s s2 : List UInt8} {obj : Bool} {ls : List J} {ns ns2 : List (List UInt8)} {f f2 : Fl} (h : memS z obj ns s f = some (ns2, s2, f2)) (hf : Fine f2) (hv : Lib.validD s = true) (hn : obj = true → ns.length = ls.length ∧ ns.Nodup ∧ ∀ u ∈ ns, Lib.validD u = true) (h0 : obj = false → ns = []) (x : J) :
  Fine f ∧ Lib.validD s2 = true ∧ (obj = true → ns2.length = (ls ++ [x]).length ∧ ns2.Nodup ∧ ∀ u ∈ ns2, Lib.validD u = true) ∧ (obj = false → ns2 = []) ∧ (if obj then lenN ns2 else 0) + 26 * s2.length ≤ (if obj then lenN ns else 0) + 26 * s.length := by
 unfold memS at h
 cases obj with
 | false =>
  simp at h
  obtain ⟨rfl, rfl, rfl⟩ := h
  exact ⟨hf, hv, by simp, h0, Nat.le_refl _⟩
 | true =>
  rw [if_pos rfl] at h
  obtain ⟨u, rfl, hu, hvu, hvs, hl, a1, a2, a3, a4⟩ := name_fine h hf.2.1 hf.2.2.1 hv
  obtain ⟨n1, n2, n3⟩ := hn rfl
  refine ⟨⟨by rw [← a3]; exact hf.1, a1, a2, by rw [← a4]; exact hf.2.2.2⟩, hvs, fun _ => ⟨by simp [n1], ?_, ?_⟩, by simp, ?_⟩
  ·rw [List.nodup_append]
   exact ⟨n2, by simp, fun a ha b hb e => by simp at hb; subst hb; subst e; exact hu ha⟩
  ·intro w hw
   rcases List.mem_append.1 hw with hw | hw
   ·exact n3 w hw
   ·simp at hw; rw [hw]; exact hvu
  ·have := quoT_len u
   simp only [if_true]
   rw [lenN_app]
   omega
theorem mem_mono {z s s2 : List UInt8} {obj : Bool} {ns ns2 : List (List UInt8)} {f f2 : Fl} (h : memS z obj ns s f = some (ns2, s2, f2)) (hf : Fine f2) : Fine f := by
 unfold memS at h
 cases obj with
 | false =>
  simp at h
  obtain ⟨rfl, rfl, rfl⟩ := h
  exact hf
 | true =>
  rw [if_pos rfl] at h
  unfold nameS at h
  split at h
  ·cases h
  split at h
  ·split at h
   ·cases h
   split at h
   ·cases h
   split at h
   ·simp only [Option.some.injEq, Prod.mk.injEq] at h
    obtain ⟨rfl, rfl, rfl⟩ := h
    obtain ⟨b1, b2, b3, b4⟩ := hf
    simp only [Bool.or_eq_false_iff] at b1 b2 b3 b4
    exact ⟨b1, b2.1, b3.1, b4⟩
   ·cases h
  ·cases h
theorem val_mono (z : List UInt8) : ∀ n, (∀ d s f v r f2, valS z n d s f = some (v, r, f2) → Fine f2 → Fine f) ∧ (∀ d obj s f v r f2, inS z n d obj s f = some (v, r, f2) → Fine f2 → Fine f) ∧ (∀ d obj ls ns s f v r f2, itemS z n d obj ls ns s f = some (v, r, f2) → Fine f2 → Fine f) := by
 intro n
 induction n with
 | zero => exact ⟨fun d s f v r f2 h => by simp [valS] at h, fun d obj s f v r f2 h => by simp [inS] at h, fun d obj ls ns s f v r f2 h => by simp [itemS] at h⟩
 | succ n ih =>
  obtain ⟨i1, i2, i3⟩ := ih
  refine ⟨?_, ?_, ?_⟩
  ·intro d s f v r f2 h hf
   have one : ∀ q : Bool, Fine { f with deep := f.deep || q } → Fine f := by
    rintro q ⟨b1, b2, b3, b4⟩
    simp only [Bool.or_eq_false_iff] at b1
    exact ⟨b1.1, b2, b3, b4⟩
   rw [valS] at h
   split at h
   ·cases h
   split at h
   ·exact one _ (i2 _ _ _ _ _ _ _ h hf)
   split at h
   ·exact one _ (i2 _ _ _ _ _ _ _ h hf)
   split at h
   ·split at h
    ·cases h
    ·simp only [Option.some.injEq, Prod.mk.injEq] at h
     obtain ⟨rfl, rfl, rfl⟩ := h
     obtain ⟨b1, b2, b3, b4⟩ := hf
     simp only [Bool.or_eq_false_iff] at b2
     exact ⟨b1, b2.1, b3, b4⟩
   split at h
   ·obtain ⟨_, _, _, _, g5⟩ := num_some h
    rw [g5] at hf
    obtain ⟨b1, b2, b3, b4⟩ := hf
    simp only [Bool.or_eq_false_iff] at b4
    exact ⟨b1, b2, b3, b4.1⟩
   split at h
   ·simp only [Option.some.injEq, Prod.mk.injEq] at h
    rw [h.2.2]; exact hf
   split at h
   ·simp only [Option.some.injEq, Prod.mk.injEq] at h
    rw [h.2.2]; exact hf
   split at h
   ·simp only [Option.some.injEq, Prod.mk.injEq] at h
    rw [h.2.2]; exact hf
   ·cases h
  ·intro d obj s f v r f2 h hf
   rw [inS] at h
   split at h
   ·cases h
   split at h
   ·simp only [Option.some.injEq, Prod.mk.injEq] at h
    rw [h.2.2]; exact hf
   ·exact i3 _ _ _ _ _ _ _ _ _ h hf
  ·intro d obj ls ns s f v r f2 h hf
   rw [itemS_succ] at h
   cases hm : memS z obj ns s f with
   | none => rw [hm] at h; cases h
   | some x =>
    obtain ⟨ns2, s2, g2⟩ := x
    rw [hm] at h
    simp only at h
    cases hvv : valS z n d s2 g2 with
    | none => rw [hvv] at h; simp [moreS] at h
    | some x =>
     obtain ⟨v1, s3, f3⟩ := x
     rw [hvv] at h
     simp only [moreS] at h
     split at h
     ·cases h
     split at h
     ·simp only [Option.some.injEq, Prod.mk.injEq] at h
      rw [← h.2.2] at hf
      exact mem_mono hm (i1 _ _ _ _ _ _ hvv hf)
     split at h
     ·exact mem_mono hm (i1 _ _ _ _ _ _ hvv (i3 _ _ _ _ _ _ _ _ _ h hf))
     ·cases h
theorem val_fine (z : List UInt8) : ∀ n, ValF z n ∧ InF z n ∧ ItemF z n := by
 intro n
 induction n with
 | zero => exact ⟨fun d s f v r f2 h => by simp [valS] at h, fun d obj s f v r f2 h => by simp [inS] at h, fun d obj ls ns s f v r f2 h => by simp [itemS] at h⟩
 | succ n ih =>
  obtain ⟨i1, i2, i3⟩ := ih
  refine ⟨?_, ?_, ?_⟩
  ·intro d s f v r f2 h hf hv
   rw [valS] at h
   cases hs : skipS s with
   | nil => rw [hs] at h; cases h
   | cons c t =>
    rw [hs] at h
    simp only at h
    have hl := skip_cons hs
    have hct : Lib.validD (c :: t) = true := by rw [← hs, skip_valid]; exact hv
    have hlen : (c :: t).length ≤ s.length := by rw [← hs]; exact skip_len s
    split at h
    ·rename_i hc; subst hc
     obtain ⟨a1, a2, a3, a4⟩ := i2 _ _ _ _ _ _ _ h hf (skip_tail hs (by decide) hv)
     obtain ⟨b1, b2, b3, b4⟩ := a1
     simp only [Bool.or_eq_false_iff, decide_eq_false_iff_not] at b1 b2 b3 b4
     exact ⟨⟨b1.1, b2, b3, b4⟩, fun _ => ⟨(a2 (by omega)).1, by have := (a2 (by omega)).2; omega⟩, a3, by omega⟩
    split at h
    ·rename_i hc; subst hc
     obtain ⟨a1, a2, a3, a4⟩ := i2 _ _ _ _ _ _ _ h hf (skip_tail hs (by decide) hv)
     obtain ⟨b1, b2, b3, b4⟩ := a1
     simp only [Bool.or_eq_false_iff, decide_eq_false_iff_not] at b1 b2 b3 b4
     exact ⟨⟨b1.1, b2, b3, b4⟩, fun _ => ⟨(a2 (by omega)).1, by have := (a2 (by omega)).2; omega⟩, a3, by omega⟩
    split at h
    ·rename_i hc; subst hc
     cases hq : qtS z t with
     | none => rw [hq] at h; cases h
     | some x =>
      obtain ⟨u, r2, a⟩ := x
      rw [hq] at h
      simp only [Option.some.injEq, Prod.mk.injEq] at h
      obtain ⟨rfl, rfl, rfl⟩ := h
      obtain ⟨b1, b2, b3, b4⟩ := hf
      simp only [Bool.or_eq_false_iff] at b1 b2 b3 b4
      obtain ⟨b2, rfl⟩ := b2
      obtain ⟨q1, q2, q3⟩ := qt_valid hq (skip_tail hs (by decide) hv)
      have hz : mayB Dec.zero = true := by decide
      refine ⟨⟨b1, b2, b3, b4⟩, fun hd => ⟨?_, hd⟩, q2, ?_⟩
      ·simp [goodJ, headB, badK, okK, bareB, bareN, bareT, deepK, goodL, hz, sameB, q1]
      ·have e : toldJ (.mk 3 false Dec.zero u [] []) = quoT u := by simp [toldJ]
       have := quoT_len u
       rw [e]; omega
    split at h
    ·obtain ⟨a1, a2, a3, a4, a5⟩ := num_fine h hf hct
     exact ⟨a1, fun hd => ⟨a2, by rw [a3]; exact hd⟩, a4, by omega⟩
    have hz : mayB Dec.zero = true := by decide
    have wd : ∀ (w : List UInt8) (k : Nat), (c :: t).take k = w → (∀ x ∈ w, x.toNat < 128) → Lib.validD ((c :: t).drop k) = true := by
     intro w k e hw
     have := valid_low w ((c :: t).drop k) hw
     rw [← e, List.take_append_drop, hct] at this
     exact this.symm
    split at h
    ·rename_i hw
     simp only [Option.some.injEq, Prod.mk.injEq] at h
     obtain ⟨rfl, rfl, rfl⟩ := h
     have hk : 4 ≤ (c :: t).length := by have := congrArg List.length hw; rw [List.length_take] at this; simp only [wNull, List.length_cons, List.length_nil] at this ⊢; omega
     refine ⟨hf, fun hd => ⟨by decide, hd⟩, wd _ 4 hw (by decide), ?_⟩
     rw [List.length_drop]
     have e : (toldJ J.zero).length = 4 := by simp [J.zero, toldJ, wNul]
     rw [e]; omega
    split at h
    ·rename_i hw
     simp only [Option.some.injEq, Prod.mk.injEq] at h
     obtain ⟨rfl, rfl, rfl⟩ := h
     have hk : 4 ≤ (c :: t).length := by have := congrArg List.length hw; rw [List.length_take] at this; simp only [wTrue, List.length_cons, List.length_nil] at this ⊢; omega
     refine ⟨hf, fun hd => ⟨by decide, hd⟩, wd _ 4 hw (by decide), ?_⟩
     rw [List.length_drop]
     have e : (toldJ (.mk 1 true Dec.zero [] [] [])).length = 4 := by simp [toldJ, boolS]
     rw [e]; omega
    split at h
    ·rename_i hw
     simp only [Option.some.injEq, Prod.mk.injEq] at h
     obtain ⟨rfl, rfl, rfl⟩ := h
     have hk : 5 ≤ (c :: t).length := by have := congrArg List.length hw; rw [List.length_take] at this; simp only [wFalse, List.length_cons, List.length_nil] at this ⊢; omega
     refine ⟨hf, fun hd => ⟨by decide, hd⟩, wd _ 5 hw (by decide), ?_⟩
     rw [List.length_drop]
     have e : (toldJ (.mk 1 false Dec.zero [] [] [])).length = 5 := by simp [toldJ, boolS]
     rw [e]; omega
    ·cases h
  ·intro d obj s f v r f2 h hf hv
   rw [inS] at h
   cases hs : skipS s with
   | nil => rw [hs] at h; cases h
   | cons c t =>
    rw [hs] at h
    simp only at h
    have hl := skip_cons hs
    have hct : Lib.validD (c :: t) = true := by rw [← hs, skip_valid]; exact hv
    have hlen : (c :: t).length ≤ s.length := by rw [← hs]; exact skip_len s
    split at h
    ·rename_i hc; subst hc
     simp only [Option.some.injEq, Prod.mk.injEq] at h
     obtain ⟨rfl, rfl, rfl⟩ := h
     have h1 := deep_list (obj := obj) (l := []) (ns := []) (d := d)
     have h2 := len_list (obj := obj) (l := []) (ns := []) (by simp)
     refine ⟨hf, fun hd => ⟨good_list rfl (by simp) (by simp), h1 hd (by simp)⟩, skip_tail hs (endB_low obj) hv, ?_⟩
     simp [lenL, lenN] at h2
     omega
    ·obtain ⟨a1, a2, l2, ns2, rfl, b1, b2, b3, b4⟩ := i3 d obj [] [] (c :: t) f v r f2 h hf hct (by simp) (by simp)
     have h2 := len_list (obj := obj) (l := l2) (ns := ns2) (fun e => (b1 e).1)
     refine ⟨a1, fun hd => ?_, a2, ?_⟩
     ·obtain ⟨c1, c2⟩ := b3 hd rfl (by simp)
      exact ⟨good_list c1 b1 b2, deep_list hd c2⟩
     ·simp only [lenL, lenN, List.map_nil, List.sum_nil, ite_self] at b4
      simp only [lenL, lenN] at h2 b4
      omega
  ·intro d obj ls ns s f v r f2 h hf hv hn h0
   rw [itemS_succ] at h
   cases hm : memS z obj ns s f with
   | none => rw [hm] at h; cases h
   | some x =>
    obtain ⟨ns2, s2, g2⟩ := x
    rw [hm] at h
    simp only at h
    cases hvv : valS z n d s2 g2 with
    | none => rw [hvv] at h; simp [moreS] at h
    | some x =>
     obtain ⟨v1, s3, f3⟩ := x
     rw [hvv] at h
     simp only [moreS] at h
     cases hs3 : skipS s3 with
     | nil => rw [hs3] at h; cases h
     | cons c t =>
      rw [hs3] at h
      simp only at h
      have hl3 := skip_cons hs3
      have hmono := val_mono z n
      have step : Fine f3 → Fine g2 := fun hf3 => hmono.1 _ _ _ _ _ _ hvv hf3
      split at h
      ·rename_i hc; subst hc
       simp only [Option.some.injEq, Prod.mk.injEq] at h
       obtain ⟨rfl, rfl, rfl⟩ := h
       obtain ⟨m1, m2, m3, m4, m5⟩ := mem_fine hm (step hf) hv hn h0 v1
       obtain ⟨g1, g2', g3, g4⟩ := i1 _ _ _ _ _ _ hvv hf m2
       refine ⟨m1, skip_tail hs3 (endB_low obj) g3, _, _, rfl, m3, m4, fun hd hgl hdl => ⟨by rw [goodL_app, hgl, (g2' hd).1]; rfl, fun x hx => ?_⟩, ?_⟩
       ·rcases List.mem_append.1 hx with hx | hx
        ·exact hdl x hx
        ·simp at hx; rw [hx]; exact (g2' hd).2
       ·rw [lenL_app]; omega
      ·split at h
       ·rename_i hc hc44
        subst hc44
        have hf3 := hmono.2.2 _ _ _ _ _ _ _ _ _ h hf
        obtain ⟨m1, m2, m3, m4, m5⟩ := mem_fine hm (step hf3) hv hn h0 v1
        obtain ⟨g1, g2', g3, g4⟩ := i1 _ _ _ _ _ _ hvv hf3 m2
        obtain ⟨e1, e2, l2, ns3, rfl, b1, b2, b3, b4⟩ := i3 _ _ _ _ _ _ _ _ _ h hf (skip_tail hs3 (by decide) g3) m3 m4
        refine ⟨m1, e2, _, _, rfl, b1, b2, fun hd hgl hdl => b3 hd (by rw [goodL_app, hgl, (g2' hd).1]; rfl) (fun x hx => ?_), ?_⟩
        ·rcases List.mem_append.1 hx with hx | hx
         ·exact hdl x hx
         ·simp at hx; rw [hx]; exact (g2' hd).2
        ·rw [lenL_app] at b4; omega
       ·cases h
theorem parse_good {z b : List UInt8} {v : J} (h : parseJ z b = (v, 0)) (hl : b.length ≤ 40000) : goodJ v = true ∧ deepJ v ≤ 64 ∧ (toldJ v).length ≤ 1048576 := by
 unfold parseJ at h
 rw [if_neg (by omega)] at h
 split at h
 ·simp at h
 ·rename_i hv
  have hv : Lib.validD b = true := by simpa using hv
  split at h
  ·simp at h
  ·rename_i v2 r f hx
   split at h
   ·simp at h
   split at h
   ·simp at h
   split at h
   ·simp at h
   split at h
   ·simp at h
   split at h
   ·simp at h
   ·rename_i h1 h2 h3 h4 h5
    simp only [Prod.mk.injEq, and_true] at h
    subst h
    have hf : Fine f := ⟨by simpa using h2, by simpa using h3, by simpa using h4, by simpa using h5⟩
    obtain ⟨a1, a2, a3, a4⟩ := (val_fine z _).1 _ _ _ _ _ _ hx hf hv
    obtain ⟨c1, c2⟩ := a2 (by omega)
    exact ⟨c1, by omega, by omega⟩
theorem textA_ge (d : Dec) : d.digits.length ≤ (textA d).length ∧ 1 ≤ (textA d).length := by
 unfold textA
 split
 ·rename_i h; rw [h]; simp
 ·rename_i h0
  split
  ·simp only [List.length_append, List.length_replicate]; omega
  ·split
   ·rename_i _ h
    simp only [List.length_append, List.length_cons, List.length_take, List.length_drop]; omega
   ·split
    ·simp only [List.length_append, List.length_cons, List.length_replicate]; omega
    ·split
     ·simp only [List.length_append, List.length_cons, List.length_take, List.length_drop]; omega
     ·simp only [List.length_append, List.length_cons]; omega
theorem textS_ge {d : Dec} (h : mayB d = true) : d.digits.length + 1 ≤ 2 * (textS d).1.length := by
 unfold textS textT
 rw [if_pos h]
 have := textA_ge d
 split
 ·show _ ≤ 2 * (45 :: textA d).length; simp only [List.length_cons]; omega
 ·show _ ≤ 2 * (textA d).length; omega
theorem quoS_ge (s : List UInt8) : s.length ≤ (quoS s).length := by
 induction s with
 | nil => simp
 | cons c s ih =>
  show (c :: s).length ≤ (quoB c ++ quoS s).length
  have := (quoB_len c).1
  rw [List.length_append, List.length_cons]; omega
theorem quoT_ge (s : List UInt8) : s.length + 2 ≤ (quoT s).length := by
 show s.length + 2 ≤ (34 :: quoS s ++ [34]).length
 have := quoS_ge s
 simp only [List.length_append, List.length_cons, List.length_nil]; omega
theorem szN_lenN (ns : List (List UInt8)) : szN ns ≤ lenN ns := by
 induction ns with
 | nil => simp [szN, lenN]
 | cons u ns ih =>
  simp only [szN, lenN, List.map_cons, List.sum_cons] at ih ⊢
  have := quoT_ge u
  omega
mutual
theorem sz_told : (v : J) → goodJ v = true → szJ v ≤ 2 * (toldJ v).length
 | .mk k b n t l ns, h => by
  obtain ⟨_, h2, h3, h4, h5, _, h7, h8, h9⟩ := good_head h
  have hl := sz_toldL l h8
  simp only [szJ]
  by_cases k2 : k = 2
  ·subst k2
   obtain rfl : l = [] := by rcases h4 with g | g | g <;> first | exact g | exact absurd g (by decide)
   obtain rfl : ns = [] := by rcases h5 with g | g <;> first | exact g | exact absurd g (by decide)
   obtain rfl : t = [] := by rcases h3 with g | g <;> first | exact g | exact absurd g (by decide)
   have := textS_ge h7
   simp only [toldJ]
   simp [szN, szL]
   omega
  ·obtain rfl : n = Dec.zero := h2.resolve_left k2
   by_cases k3 : k = 3
   ·subst k3
    obtain rfl : l = [] := by rcases h4 with g | g | g <;> first | exact g | exact absurd g (by decide)
    obtain rfl : ns = [] := by rcases h5 with g | g <;> first | exact g | exact absurd g (by decide)
    have := quoT_ge t
    simp only [toldJ]
    simp [szN, szL, Dec.zero]
    omega
   ·obtain rfl : t = [] := h3.resolve_left k3
    by_cases k4 : k = 4 ∨ k = 5
    ·have h1 := toldL_len l (decide (k = 5)) true ns (fun e => by
      rcases h9 with g | g | g | g | g | g
      iterate 5 (have := of_decide_eq_true e; omega)
      exact g.2.1)
     have hN : szN ns ≤ (if decide (k = 5) = true then lenN ns else 0) := by
      by_cases e : k = 5
      ·rw [if_pos (decide_eq_true e)]; exact szN_lenN ns
      ·rw [h5.resolve_left e]; simp [szN]
     simp only [toldJ]
     rw [if_neg (by omega), if_neg (by omega), if_neg k2, if_neg k3]
     simp only [List.length_append]
     have e1 : (if k = 5 then ([123] : List UInt8) else [91]).length = 1 := by split <;> rfl
     have e2 : (if k = 5 then ([125] : List UInt8) else [93]).length = 1 := by split <;> rfl
     rw [e1, e2]
     simp only [Dec.zero, List.length_nil]
     have e3 : (if (true = true) ∧ l ≠ [] then 1 else 0) ≤ 1 := by split <;> omega
     omega
    ·obtain rfl : l = [] := by
      rcases h4 with g | g | g
      ·exact absurd (.inl g) k4
      ·exact absurd (.inr g) k4
      ·exact g
     obtain rfl : ns = [] := h5.resolve_left (fun e => k4 (.inr e))
     have hk : k = 0 ∨ k = 1 := by
      rcases h9 with g | g | g | g | g | g
      ·exact .inl g
      ·exact .inr g
      ·exact absurd g k2
      ·exact absurd g k3
      ·exact absurd (.inl g) k4
      ·exact absurd (.inr g.1) k4
     rcases hk with rfl | rfl
     ·simp [toldJ, szN, szL, Dec.zero, wNul]
     ·cases b <;> simp [toldJ, szN, szL, Dec.zero, boolS]
theorem sz_toldL : (l : List J) → goodL l = true → szL l + 2 * l.length ≤ 2 * lenL l
 | [], _ => by simp [szL, lenL]
 | x :: l, h => by
  rw [goodL, Bool.and_eq_true] at h
  have h1 := sz_told x h.1
  have h2 := sz_toldL l h.2
  have e : lenL (x :: l) = (toldJ x).length + 1 + lenL l := by simp [lenL]
  rw [e]
  simp only [szL, List.length_cons]
  omega
end
theorem parse_sz {z b : List UInt8} {v : J} (h : parseJ z b = (v, 0)) (hl : b.length ≤ 40000) : szJ v ≤ 20000000 := by
 obtain ⟨h1, _, h3⟩ := parse_good h hl
 have := sz_told v h1
 omega
end Go.Proofs.YtfclfaidmipjpaaGreatDoor
