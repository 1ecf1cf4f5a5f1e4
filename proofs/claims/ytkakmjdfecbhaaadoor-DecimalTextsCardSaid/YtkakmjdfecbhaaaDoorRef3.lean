/- The walk of the reference's Parse: it answers as parseS, over any world. Printed by gen_ref3.py. -/
import Derived.Test.YtkakmjdfecbhaaaDoorRef2
import Derived.Test.YtkakmjdfecbhaaaDoorRefL
namespace Go.Proofs.YtkakmjdfecbhaaaDoor
open Go.RowKit

set_option maxHeartbeats 8000000 in
set_option maxRecDepth 100000 in
theorem parseR_calls (w : World) (l : List UInt8) (hl : l.length ≤ 1000000000) :
    Calls Tryd.prog 11 #[.string ⟨l.toArray⟩] w fun e w' => e = .returned (.tuple #[DecV (parseS l).1, .int .i64 (parseS l).2]) ∧ Below w.heap.size w w' := by
  have hrz := DecAt.at w Dec.zero _ rfl
  have c0 := hrz.c0
  have c1 := hrz.c1
  have c2 := hrz.c2
  have f0 := hrz.f0
  have f1 := hrz.f1
  have f2 := hrz.f2
  clear hrz
  simp only [Dec.zero] at c0 c1 c2 f0 f1 f2
  have hbz : Below w.heap.size w (w.alloc (Obj.cells #[Value.bool false, Value.string { data := #[] }, Value.int IntKind.i64 0] 23)) := (Below.refl _ _).alloc (Nat.le_refl _) _
  generalize hw1 : w.alloc (Obj.cells #[Value.bool false, Value.string { data := #[] }, Value.int IntKind.i64 0] 23) = w1 at *
  have Hw1 := Lib.hid hw1
  clear hw1
  have hbe := ((hbz.setCell (p := ⟨w.heap.size, 0, none⟩) (Nat.le_refl _) (.bool false)).setCell (p := ⟨w.heap.size, 1, none⟩) (Nat.le_refl _) (.string ⟨#[]⟩)).setCell (p := ⟨w.heap.size, 2, none⟩) (Nat.le_refl _) (.int .i64 0)
  go_enter Tryd.func11, Tryd.ntmps11
  go_upto_region 1 with fail
  rw [Hw1.out]
  clear Hw1
  by_cases hlong : 1000 < l.length
  · have hlong' : (1000 : Int) < l.length := by omega
    have HP : Hid (parseS l = (Dec.zero, 3)) := by show parseS l = _; unfold parseS; rw [if_pos hlong]
    go_wp2_with fail
    refine bodyPost_ret (v := .tuple #[.agg #[.bool false, .string ⟨#[]⟩, .int .i64 0], .int .i64 3]) (by simp [results, Tryd.results11, go_sem, c0, c1, c2]) rfl ?_
    rw [HP.out]
    exact ⟨rfl, hbe⟩
  · have hlong' : ¬ (1000 : Int) < l.length := by omega
    have HP : Hid (parseS l = parseA ((oneS [45] l).1 == 45) (oneS [45] l).2) := by show parseS l = _; unfold parseS; rw [if_neg hlong]
    go_upto_region 4 with fail
    go_cut [5] from 18 to 25 (fun u wc => u = .bool ((oneS [45] l).1 == 45) ∧ w1 = wc)
    case first =>
      as_aux_lemma =>
        cases l with
        | nil =>
          go_wp2_with fail
          go_meet
          exact ⟨rfl, rfl⟩
        | cons c t =>
          have hi := may_at (c :: t) 0 (by simp)
          rw [show (c :: t).getD 0 0 = c from rfl] at hi
          by_cases h1 : c = 45
          · subst h1
            go_wp2_with fail
            go_meet
            exact ⟨rfl, rfl⟩
          · have h1' : ((c.toNat : Int) == 45) = false := by
              rw [beq_eq_false_iff_ne]; intro h; exact h1 (UInt8.toNat_inj.1 (by show c.toNat = 45; omega))
            have hb : ((oneS [45] (c :: t)).1 == 45) = false := by simp [oneS, h1]
            have Hb := Lib.hid hb
            clear hb h1
            go_wp2_with fail
            go_meet
            exact ⟨by rw [Hb.out], rfl⟩
    case rest =>
      as_aux_lemma =>
        obtain ⟨rfl, rfl⟩ := hcut
        have hn : ∃ n : Nat, n ≤ l.length ∧ n ≤ 1 ∧ l.drop n = (oneS [45] l).2 ∧ n = if (oneS [45] l).1 == 45 then 1 else 0 := by
          cases l with
          | nil => exact ⟨0, by simp, by omega, rfl, rfl⟩
          | cons c t =>
            by_cases h1 : c = 45
            · subst h1; exact ⟨1, by simp, by omega, by simp [oneS], by simp [oneS]⟩
            · exact ⟨0, by simp, by omega, by simp [oneS, h1], by simp [oneS, h1]⟩
        obtain ⟨n, hn, hn1, hdn, hne⟩ := hn
        rw [← hdn] at HP
        have Hne := Lib.hid hne
        clear hdn hne
        generalize ((oneS [45] l).1 == 45) = neg at *
        go_upto_if 26 with fail
        go_cut [4] from 26 to 26 (fun u wc => u = .int .i64 (n : Int) ∧ w1 = wc)
        case first =>
          as_aux_lemma =>
            cases neg with
            | true =>
              obtain rfl : n = 1 := Hne.out
              go_wp2_with fail
              go_meet
              exact ⟨rfl, rfl⟩
            | false =>
              obtain rfl : n = 0 := Hne.out
              go_wp2_with fail
              go_meet
              exact ⟨rfl, rfl⟩
        case rest =>
          as_aux_lemma =>
            obtain ⟨rfl, rfl⟩ := hcut
            clear Hne
            obtain ⟨hr1, he1, htk⟩ := drop_digs l n hn
            have hlen1 := digs_len (l.drop n)
            have HD := Lib.hid (Dig_digs (l.drop n))
            have hpa : parseA neg (l.drop n) = if digsS (l.drop n) = [] ∨ ((digsS (l.drop n)).getD 0 0 = 48 ∧ 1 < (digsS (l.drop n)).length) then (Dec.zero, 170) else parseP neg (digsS (l.drop n)) (restS (l.drop n)) := rfl
            rw [hpa] at HP
            clear hpa
            have hext : (⟨l.toArray⟩ : ByteArray).extract n (n + (digsS (l.drop n)).length) = ⟨(digsS (l.drop n)).toArray⟩ := by rw [Lib.extract_eq]; show (⟨((l.drop n).take _).toArray⟩ : ByteArray) = _; rw [Nat.add_sub_cancel_left, htk]
            have hg0 : ∀ c t, digsS (l.drop n) = c :: t → l.getD n 0 = c ∧ n < l.length := fun c t h => by
              have h9 := digs_rest (l.drop n)
              rw [h] at h9
              exact ⟨(drop_cons h9.symm).2.1, (drop_cons h9.symm).1⟩
            have Hg0 := Lib.hid hg0
            have Hr1 := Lib.hid hr1
            have Hext := Lib.hid hext
            clear hg0 hr1 htk hext
            simp only [List.length_drop] at hlen1
            go_wp2_with fail
            refine (digitsR_calls w1 l n (by omega) hn).mono ?_
            rintro e w2 ⟨rfl, rfl⟩
            generalize hD : digsS (l.drop n) = D at *
            generalize restS (l.drop n) = r at *
            clear hD
            cases D with
            | nil =>
              have HP2 : Hid (parseS l = (Dec.zero, 170)) := by show parseS l = _; rw [HP.out, if_pos (.inl rfl)]
              simp only [List.length_nil, Nat.add_zero]
              go_wp2_with fail
              refine bodyPost_ret (v := .tuple #[.agg #[.bool false, .string ⟨#[]⟩, .int .i64 0], .int .i64 170]) (by simp [results, Tryd.results11, go_sem, c0, c1, c2]) rfl ?_
              rw [HP2.out]
              exact ⟨rfl, hbe⟩
            | cons c t =>
              simp only [List.length_cons] at hlen1 he1
              obtain ⟨hgn, hnl⟩ := Hg0.out c t rfl
              have hix : (⟨l.toArray⟩ : ByteArray)[n]'(by simpa [ByteArray.size] using hnl) = c := by rw [may_at l n hnl]; exact hgn
              have hne0 : ((n : Int) + ((t.length : Int) + 1) == n) = false := by rw [beq_eq_false_iff_ne]; omega
              clear Hg0 hgn
              by_cases hbad : c = 48 ∧ t ≠ []
              · obtain ⟨rfl, htn⟩ := hbad
                have htl : 0 < t.length := List.length_pos_iff.2 htn
                have HP2 : Hid (parseS l = (Dec.zero, 170)) := by show parseS l = _; rw [HP.out, if_pos (.inr ⟨rfl, by simp; omega⟩)]
                clear htn
                go_wp2_with fail
                refine bodyPost_ret (v := .tuple #[.agg #[.bool false, .string ⟨#[]⟩, .int .i64 0], .int .i64 170]) (by simp [results, Tryd.results11, go_sem, c0, c1, c2]) rfl ?_
                rw [HP2.out]
                exact ⟨rfl, hbe⟩
              · have HP2 : Hid (parseS l = parseP neg (c :: t) r) := by
                  show parseS l = _
                  rw [HP.out, if_neg]
                  rintro (h | ⟨h1, h2⟩)
                  · cases h
                  · exact hbad ⟨h1, by intro e; subst e; simp at h2⟩
                have hok : ((c.toNat : Int) == 48) = false ∨ t.length = 0 := by
                  by_cases h1 : c = 48
                  · right; by_cases h2 : t = []
                    · subst h2; rfl
                    · exact absurd ⟨h1, h2⟩ hbad
                  · left; rw [beq_eq_false_iff_ne]; intro h; exact h1 (UInt8.toNat_inj.1 (by show c.toNat = 48; omega))
                have Hok := Lib.hid hok
                clear hbad HP hok
                obtain ⟨A, hA⟩ : ∃ A, A = c :: t := ⟨_, rfl⟩
                have hAl : A.length = t.length + 1 := by rw [hA]; rfl
                obtain ⟨n1, hn1e⟩ : ∃ n1, n1 = n + (t.length + 1) := ⟨_, rfl⟩
                rw [← hA] at HP2
                have Hext2 : Hid ((⟨l.toArray⟩ : ByteArray).extract n n1 = ⟨A.toArray⟩) := by show _ = _; rw [hn1e, hA]; exact Hext.out
                have Hr2 : Hid (l.drop n1 = r) := by show _ = _; rw [hn1e]; exact Hr1.out
                have HA := Lib.hid hA
                have Hn1e := Lib.hid hn1e
                have HAl := Lib.hid hAl
                clear Hext Hr1 hA hn1e hAl
                go_upto_region 8 with fail
                go_cut [44] from 30 to 43 (fun u wc => u = .bool false ∧ w1 = wc)
                case first =>
                  as_aux_lemma =>
                    rcases Hok.out with hok | hok
                    all_goals clear Hok HD
                    · go_wp2_with fail
                      go_meet
                      exact ⟨rfl, rfl⟩
                    · have hok2 : ¬ ((n : Int) + 1 < (n : Int) + ((t.length : Int) + 1)) := by omega
                      clear hok
                      by_cases h48 : ((c.toNat : Int) == 48) = true
                      · go_wp2_with fail
                        go_meet
                        exact ⟨rfl, rfl⟩
                      · have h48f : ((c.toNat : Int) == 48) = false := by simpa using h48
                        clear h48
                        go_wp2_with fail
                        go_meet
                        exact ⟨rfl, rfl⟩
                case rest =>
                  as_aux_lemma =>
                    obtain ⟨rfl, rfl⟩ := hcut
                    clear Hok hix hne0
                    have hse : ((n : Int) + ((t.length : Int) + 1)) = (n1 : Int) := by have := Hn1e.out; omega
                    have hn1l : n1 ≤ l.length := by have := Hn1e.out; omega
                    have hA1 : A.length ≤ 1000 := by have := HAl.out; omega
                    have hnn : n ≤ n1 := by have := Hn1e.out; omega
                    simp only [hse]
                    clear hse
                    have hx := Hext2.out
                    clear Hext2 HA Hn1e HAl hlen1 he1
                    go_upto_region 13 with fail
                    clear hx
                    have hpp : parseP neg A r = if (oneS [46] r).1 = 46 then if digsS (oneS [46] r).2 = [] then (Dec.zero, 170) else parseE neg (A ++ digsS (oneS [46] r).2) (-((digsS (oneS [46] r).2).length : Int)) (restS (oneS [46] r).2) else parseE neg A 0 (oneS [46] r).2 := rfl
                    rw [hpp] at HP2
                    clear hpp
                    go_cut [60] from 51 to 59 (fun u wc => u = .bool ((oneS [46] r).1 == 46) ∧ w1 = wc)
                    case first =>
                      as_aux_lemma =>
                        cases r with
                        | nil =>
                          have h9 := drop_none Hr2.out hn1l
                          have h9' : ¬ (n1 : Int) < l.length := by omega
                          clear h9
                          go_wp2_with fail
                          go_meet
                          exact ⟨rfl, rfl⟩
                        | cons c2 t2 =>
                          obtain ⟨h8, h9, _⟩ := drop_cons Hr2.out
                          have hi2 := may_at l n1 h8
                          rw [h9] at hi2
                          have h8' : (n1 : Int) < l.length := by omega
                          clear h9
                          by_cases h1 : c2 = 46
                          · subst h1
                            go_wp2_with fail
                            go_meet
                            exact ⟨rfl, rfl⟩
                          · have h1' : ((c2.toNat : Int) == 46) = false := by rw [beq_eq_false_iff_ne]; intro h; exact h1 (UInt8.toNat_inj.1 (by show c2.toNat = 46; omega))
                            have Hb : Hid (((oneS [46] (c2 :: t2)).1 == 46) = false) := by show _ = _; simp [oneS, h1]
                            clear h1
                            go_wp2_with fail
                            go_meet
                            exact ⟨by rw [Hb.out], rfl⟩
                    case rest =>
                      as_aux_lemma =>
                        obtain ⟨rfl, rfl⟩ := hcut
                        go_upto_if 60 with fail
                        go_cut [4, 6, 7, 8] from 60 to 82 (fun a _ al x wc => ∃ (m : Nat) (B : List UInt8) (X : Int), a = .int .i64 (m : Int) ∧ al = .string ⟨B.toArray⟩ ∧ x = .int .i64 X ∧ m ≤ l.length ∧ B.length ≤ 2000 ∧ -1000 ≤ X ∧ X ≤ 0 ∧ Hid (parseS l = parseE neg B X (l.drop m)) ∧ w1 = wc)
                        case first =>
                          as_aux_lemma =>
                            cases hp : ((oneS [46] r).1 == 46) with
                            | false =>
                              have h1 : ¬ (oneS [46] r).1 = 46 := by simpa using hp
                              have h2 : (oneS [46] r).2 = r := by
                                cases r with
                                | nil => rfl
                                | cons c2 t2 =>
                                  by_cases h3 : c2 = 46
                                  · subst h3; exact absurd rfl h1
                                  · simp [oneS, h3]
                              have HP3 : Hid (parseS l = parseE neg A 0 (l.drop n1)) := by show parseS l = _; rw [HP2.out, if_neg h1, h2, Hr2.out]
                              clear HP2 hp h1 h2
                              go_wp2_with fail
                              go_meet
                              exact ⟨n1, A, 0, rfl, rfl, rfl, hn1l, by omega, by omega, by omega, HP3, rfl⟩
                            | true =>
                              have h1 : (oneS [46] r).1 = 46 := by simpa using hp
                              obtain ⟨t2, rfl⟩ : ∃ t2, r = 46 :: t2 := by
                                cases r with
                                | nil => cases h1
                                | cons c2 t2 =>
                                  by_cases h3 : c2 = 46
                                  · subst h3; exact ⟨t2, rfl⟩
                                  · simp [oneS, h3] at h1
                              have HP3 : Hid (parseS l = if digsS t2 = [] then (Dec.zero, 170) else parseE neg (A ++ digsS t2) (-((digsS t2).length : Int)) (restS t2)) := by show parseS l = _; rw [HP2.out, if_pos h1]; rfl
                              obtain ⟨h8, _, h9⟩ := drop_cons Hr2.out
                              have Hd2 := Lib.hid h9
                              clear HP2 hp h1 h9
                              obtain ⟨m, hm⟩ : ∃ m, m = n1 + 1 := ⟨_, rfl⟩
                              rw [← hm] at Hd2
                              have hml : m ≤ l.length := by omega
                              obtain ⟨hr1, he1, htk⟩ := drop_digs l m hml
                              have hlen1 := digs_len (l.drop m)
                              rw [Hd2.out] at hr1 he1 htk hlen1
                              have hext : (⟨l.toArray⟩ : ByteArray).extract m (m + (digsS t2).length) = ⟨(digsS t2).toArray⟩ := by rw [Lib.extract_eq]; show (⟨((l.drop m).take _).toArray⟩ : ByteArray) = _; rw [Nat.add_sub_cancel_left, Hd2.out, htk]
                              have hdl := congrArg List.length Hd2.out
                              simp only [List.length_drop] at hdl
                              have Hr3 := Lib.hid hr1
                              have Hext3 := Lib.hid hext
                              have Hm := Lib.hid hm
                              clear hr1 htk hext
                              have hmi : ((n1 : Int) + 1) = (m : Int) := by omega
                              have Hmi := Lib.hid hmi
                              have Hdl : Hid ((digsS t2).length + (restS t2).length = l.length - m) := by show _ = _; omega
                              clear hm hmi hlen1 hdl Hr2
                              go_wp2_with fail
                              rw [Hmi.out]
                              refine (digitsR_calls w1 l m (by omega) hml).mono ?_
                              rintro e w2 ⟨rfl, rfl⟩
                              rw [Hd2.out]
                              obtain ⟨e2, he2⟩ : ∃ e2, e2 = m + (digsS t2).length := ⟨_, rfl⟩
                              rw [← he2]
                              rw [← he2] at Hext3 Hr3 he1
                              have He2 := Lib.hid he2
                              have hx3 : (⟨l.toArray⟩ : ByteArray).extract (n1 + 1) e2 = ⟨(digsS t2).toArray⟩ := by rw [show n1 + 1 = m by have := Hmi.out; omega]; exact Hext3.out
                              have Hx3 := Lib.hid hx3
                              clear hx3 Hext3 he2
                              generalize digsS t2 = D2 at *
                              generalize restS t2 = r2 at *
                              by_cases hD2 : D2 = []
                              · have HP4 : Hid (parseS l = (Dec.zero, 170)) := by show parseS l = _; rw [HP3.out, if_pos hD2]
                                have hb : ((e2 : Int) == (n1 : Int) + 1) = true := by rw [beq_iff_eq]; have h7 := He2.out; rw [hD2] at h7; have := Hmi.out; simp at h7; omega
                                clear hD2
                                go_wp2_with fail
                                refine bodyPost_ret (v := .tuple #[.agg #[.bool false, .string ⟨#[]⟩, .int .i64 0], .int .i64 170]) (by simp [results, Tryd.results11, go_sem, c0, c1, c2]) rfl ?_
                                rw [HP4.out]
                                exact ⟨rfl, hbe⟩
                              · have HP4 : Hid (parseS l = parseE neg (A ++ D2) (-(D2.length : Int)) r2) := by show parseS l = _; rw [HP3.out, if_neg hD2]
                                have hdp : 0 < D2.length := List.length_pos_iff.2 hD2
                                have hb : ((e2 : Int) == (n1 : Int) + 1) = false := by rw [beq_eq_false_iff_ne]; have := He2.out; have := Hmi.out; omega
                                have hn12 : n1 + 1 ≤ e2 := by have := He2.out; have := Hmi.out; omega
                                have hx3 := Hx3.out
                                have hD2l : D2.length ≤ 1000 := by have := Hdl.out; omega
                                have hsum : A.length + D2.length ≤ 9223372036854775807 := by omega
                                clear hD2 HP3
                                go_wp2_with fail
                                go_meet
                                refine ⟨e2, A ++ D2, -(D2.length : Int), rfl, ?_, ?_, he1, ?_, ?_, by omega, ?_, rfl⟩
                                · first | rfl | simp | skip
                                · have := He2.out; have := Hmi.out; go_num
                                · have := He2.out; have := Hmi.out; have := Hdl.out; simp; omega
                                · have := He2.out; have := Hmi.out; have := Hdl.out; omega
                                · show parseS l = _; rw [HP4.out, Hr3.out]
                        case rest =>
                          as_aux_lemma =>
                            obtain ⟨m, B, X, rfl, rfl, rfl, hm, hB, hX1, hX2, HP3, rfl⟩ := hcut
                            clear HP2 Hr2 hnn hn1l hn hn1
                            go_upto_region 20 with fail
                            obtain ⟨r, hr⟩ : ∃ r, r = l.drop m := ⟨_, rfl⟩
                            have Hr := Lib.hid hr.symm
                            have HP4 : Hid (parseS l = parseE neg B X r) := by show parseS l = _; rw [hr]; exact HP3.out
                            clear HP3 hr
                            go_cut [98] from 83 to 97 (fun u wc => u = .bool ((oneS [101, 69] r).1 != 0) ∧ w1 = wc)
                            case first =>
                              as_aux_lemma =>
                                cases r with
                                | nil =>
                                  have h9 := drop_none Hr.out hm
                                  have h9' : ¬ (m : Int) < l.length := by omega
                                  clear h9
                                  go_wp2_with fail
                                  go_meet
                                  exact ⟨rfl, rfl⟩
                                | cons c2 t2 =>
                                  obtain ⟨h8, h9, _⟩ := drop_cons Hr.out
                                  have hi2 := may_at l m h8
                                  rw [h9] at hi2
                                  have h8' : (m : Int) < l.length := by omega
                                  clear h9
                                  by_cases he1 : c2 = 101
                                  · subst he1
                                    go_wp2_with fail
                                    go_meet
                                    exact ⟨rfl, rfl⟩
                                  · have e1 : ((c2.toNat : Int) == 101) = false := by rw [beq_eq_false_iff_ne]; intro h; exact he1 (UInt8.toNat_inj.1 (by show c2.toNat = 101; omega))
                                    by_cases he2 : c2 = 69
                                    · subst he2
                                      go_wp2_with fail
                                      go_meet
                                      exact ⟨rfl, rfl⟩
                                    · have e2 : ((c2.toNat : Int) == 69) = false := by rw [beq_eq_false_iff_ne]; intro h; exact he2 (UInt8.toNat_inj.1 (by show c2.toNat = 69; omega))
                                      have Hb : Hid (((oneS [101, 69] (c2 :: t2)).1 != 0) = false) := by show _ = _; simp [oneS, he1, he2]
                                      clear he1 he2
                                      go_wp2_with fail
                                      go_meet
                                      exact ⟨by rw [Hb.out], rfl⟩
                            case rest =>
                              as_aux_lemma =>
                                obtain ⟨rfl, rfl⟩ := hcut
                                go_upto_if 98 with fail
                                go_cut [4, 6, 8, 9, 10, 11] from 98 to 157 (fun a _ x _ _ _ wc => ∃ (m : Nat) (X : Int), a = .int .i64 (m : Int) ∧ x = .int .i64 X ∧ m ≤ l.length ∧ -3000000 ≤ X ∧ X ≤ 3000000 ∧ Hid (parseS l = parseEnd neg B X (l.drop m)) ∧ w1 = wc)
                                case first =>
                                  as_aux_lemma =>
                                    cases hp : ((oneS [101, 69] r).1 != 0) with
                                    | false =>
                                      have h1 : (oneS [101, 69] r).1 = 0 := by simpa using hp
                                      have h2 : (oneS [101, 69] r).2 = r := by
                                        cases r with
                                        | nil => rfl
                                        | cons c2 t2 =>
                                          by_cases h3 : c2 = 101
                                          · subst h3; cases h1
                                          · by_cases h4 : c2 = 69
                                            · subst h4; cases h1
                                            · simp [oneS, h3, h4]
                                      have HP5 : Hid (parseS l = parseEnd neg B X (l.drop m)) := by show parseS l = _; rw [HP4.out]; unfold parseE; rw [if_pos h1, h2, Hr.out]
                                      clear HP4 hp h1 h2
                                      go_wp2_with fail
                                      go_meet
                                      exact ⟨m, X, rfl, rfl, hm, by omega, by omega, HP5, rfl⟩
                                    | true =>
                                      obtain ⟨cE, t, rfl, hone⟩ : ∃ cE t, r = cE :: t ∧ oneS [101, 69] r = (cE, t) := by
                                        cases r with
                                        | nil => cases hp
                                        | cons c2 t2 =>
                                          by_cases h3 : c2 = 101
                                          · subst h3; exact ⟨_, _, rfl, rfl⟩
                                          · by_cases h4 : c2 = 69
                                            · subst h4; exact ⟨_, _, rfl, rfl⟩
                                            · simp [oneS, h3, h4] at hp
                                      have h1 : ¬ cE = 0 := by rw [hone] at hp; simpa using hp
                                      have HP5 : Hid (parseS l = if digsS (oneS [43, 45] t).2 = [] then (Dec.zero, 170) else parseEnd neg B (X + (if (oneS [43, 45] t).1 = 45 then -powerS (digsS (oneS [43, 45] t).2) else powerS (digsS (oneS [43, 45] t).2))) (restS (oneS [43, 45] t).2)) := by show parseS l = _; rw [HP4.out]; unfold parseE; rw [hone, if_neg h1]
                                      obtain ⟨h8, _, h9⟩ := drop_cons Hr.out
                                      have Hd := Lib.hid h9
                                      have h8' : (m : Int) < l.length := by omega
                                      clear HP4 hp h1 h9 hone Hr
                                      obtain ⟨n, hnm⟩ : ∃ n, n = m + 1 := ⟨_, rfl⟩
                                      rw [← hnm] at Hd
                                      have hn : n ≤ l.length := by omega
                                      have hi : ((m : Int) + 1) = (n : Int) := by omega
                                      have Hi := Lib.hid hi
                                      clear hnm hi
                                      go_upto_region 22 with fail
                                      rw [Hi.out]
                                      clear Hi
                                      go_cut [9] from 101 to 110 (fun u wc => u = .bool ((oneS [43, 45] t).1 == 45) ∧ w1 = wc)
                                      case first =>
                                        as_aux_lemma =>
                                          cases t with
                                          | nil =>
                                            have h9 := drop_none Hd.out hn
                                            have h9' : ¬ (n : Int) < l.length := by omega
                                            clear h9
                                            go_wp2_with fail
                                            go_meet
                                            exact ⟨rfl, rfl⟩
                                          | cons c3 t3 =>
                                            obtain ⟨h8, h9, _⟩ := drop_cons Hd.out
                                            have hi2 := may_at l n h8
                                            rw [h9] at hi2
                                            have h8' : (n : Int) < l.length := by omega
                                            clear h9
                                            by_cases he1 : c3 = 45
                                            · subst he1
                                              go_wp2_with fail
                                              go_meet
                                              exact ⟨rfl, rfl⟩
                                            · have e1 : ((c3.toNat : Int) == 45) = false := by rw [beq_eq_false_iff_ne]; intro h; exact he1 (UInt8.toNat_inj.1 (by show c3.toNat = 45; omega))
                                              have Hb : Hid (((oneS [43, 45] (c3 :: t3)).1 == 45) = false) := by
                                                by_cases he2 : c3 = 43
                                                · subst he2; rfl
                                                · show _ = _; simp [oneS, he1, he2]
                                              clear he1
                                              go_wp2_with fail
                                              go_meet
                                              exact ⟨by rw [Hb.out], rfl⟩
                                      case rest =>
                                        as_aux_lemma =>
                                          obtain ⟨rfl, rfl⟩ := hcut
                                          go_upto_region 23 with fail
                                          go_cut [126] from 111 to 125 (fun u wc => u = .bool ((oneS [43, 45] t).1 != 0) ∧ w1 = wc)
                                          case first =>
                                            as_aux_lemma =>
                                              cases t with
                                              | nil =>
                                                have h9 := drop_none Hd.out hn
                                                have h9' : ¬ (n : Int) < l.length := by omega
                                                clear h9
                                                go_wp2_with fail
                                                go_meet
                                                exact ⟨rfl, rfl⟩
                                              | cons c3 t3 =>
                                                obtain ⟨h8, h9, _⟩ := drop_cons Hd.out
                                                have hi2 := may_at l n h8
                                                rw [h9] at hi2
                                                have h8' : (n : Int) < l.length := by omega
                                                clear h9
                                                by_cases he1 : c3 = 45
                                                · subst he1
                                                  go_wp2_with fail
                                                  go_meet
                                                  exact ⟨rfl, rfl⟩
                                                · have e1 : ((c3.toNat : Int) == 45) = false := by rw [beq_eq_false_iff_ne]; intro h; exact he1 (UInt8.toNat_inj.1 (by show c3.toNat = 45; omega))
                                                  by_cases he2 : c3 = 43
                                                  · subst he2
                                                    go_wp2_with fail
                                                    go_meet
                                                    exact ⟨rfl, rfl⟩
                                                  · have e2 : ((c3.toNat : Int) == 43) = false := by rw [beq_eq_false_iff_ne]; intro h; exact he2 (UInt8.toNat_inj.1 (by show c3.toNat = 43; omega))
                                                    have Hb : Hid (((oneS [43, 45] (c3 :: t3)).1 != 0) = false) := by show _ = _; simp [oneS, he1, he2]
                                                    clear he1 he2
                                                    go_wp2_with fail
                                                    go_meet
                                                    exact ⟨by rw [Hb.out], rfl⟩
                                          case rest =>
                                            as_aux_lemma =>
                                              obtain ⟨rfl, rfl⟩ := hcut
                                              obtain ⟨n2, hn2, hd2, hn2i⟩ : ∃ n2 : Nat, n2 ≤ l.length ∧ l.drop n2 = (oneS [43, 45] t).2 ∧ n2 = if ((oneS [43, 45] t).1 != 0) = true then n + 1 else n := by
                                                cases t with
                                                | nil => exact ⟨n, hn, Hd.out, rfl⟩
                                                | cons c3 t3 =>
                                                  obtain ⟨h8, h9, h10⟩ := drop_cons Hd.out
                                                  by_cases he1 : c3 = 45
                                                  · subst he1; exact ⟨n + 1, by omega, h10, rfl⟩
                                                  · by_cases he2 : c3 = 43
                                                    · subst he2; exact ⟨n + 1, by omega, h10, rfl⟩
                                                    · exact ⟨n, hn, by rw [Hd.out]; simp [oneS, he1, he2], by simp [oneS, he1, he2]⟩
                                              have Hn2 := Lib.hid hn2i
                                              have Hd2 := Lib.hid hd2
                                              clear hn2i hd2 Hd
                                              generalize ((oneS [43, 45] t).1 != 0) = sk at *
                                              go_upto_if 126 with fail
                                              go_cut [4] from 126 to 128 (fun u wc => u = .int .i64 (n2 : Int) ∧ w1 = wc)
                                              case first =>
                                                as_aux_lemma =>
                                                  cases sk with
                                                  | true =>
                                                    obtain rfl : n2 = n + 1 := Hn2.out
                                                    go_wp2_with fail
                                                    go_meet
                                                    exact ⟨by go_num, rfl⟩
                                                  | false =>
                                                    obtain rfl : n2 = n := Hn2.out
                                                    go_wp2_with fail
                                                    go_meet
                                                    exact ⟨rfl, rfl⟩
                                              case rest =>
                                                as_aux_lemma =>
                                                  obtain ⟨rfl, rfl⟩ := hcut
                                                  clear Hn2
                                                  rw [← Hd2.out] at HP5
                                                  clear Hd2
                                                  obtain ⟨hr1, he1, htk⟩ := drop_digs l n2 hn2
                                                  have hlen1 := digs_len (l.drop n2)
                                                  simp only [List.length_drop] at hlen1
                                                  have HDg := Lib.hid (Dig_digs (l.drop n2))
                                                  have Hr3 := Lib.hid hr1
                                                  have Htk := Lib.hid htk
                                                  clear hr1 htk
                                                  generalize hls : ((oneS [43, 45] t).1 == 45) = ls at *
                                                  have hif : ((oneS [43, 45] t).1 = 45) ↔ ls = true := by rw [← hls, beq_iff_eq]
                                                  simp only [hif] at HP5
                                                  clear hif hls
                                                  go_wp2_with fail
                                                  refine (digitsR_calls w1 l n2 (by omega) hn2).mono ?_
                                                  rintro e w2 ⟨rfl, rfl⟩
                                                  obtain ⟨D, hD⟩ : ∃ D, D = digsS (l.drop n2) := ⟨_, rfl⟩
                                                  rw [← hD] at HP5 he1 hlen1 HDg Hr3 Htk ⊢
                                                  clear hD
                                                  generalize restS (l.drop n2) = r2 at *
                                                  obtain ⟨e3, he3⟩ : ∃ e3, e3 = n2 + D.length := ⟨_, rfl⟩
                                                  rw [← he3] at he1 Hr3 ⊢
                                                  have He3 := Lib.hid he3
                                                  clear he3
                                                  by_cases hD0 : D = []
                                                  · have HP6 : Hid (parseS l = (Dec.zero, 170)) := by show parseS l = _; rw [HP5.out, if_pos hD0]
                                                    obtain rfl : e3 = n2 := by have := He3.out; rw [hD0] at this; simpa using this
                                                    clear hD0
                                                    go_wp2_with fail
                                                    refine bodyPost_ret (v := .tuple #[.agg #[.bool false, .string ⟨#[]⟩, .int .i64 0], .int .i64 170]) (by simp [results, Tryd.results11, go_sem, c0, c1, c2]) rfl ?_
                                                    rw [HP6.out]
                                                    exact ⟨rfl, hbe⟩
                                                  · have hdp : 0 < D.length := List.length_pos_iff.2 hD0
                                                    have hb : ((e3 : Int) == (n2 : Int)) = false := by rw [beq_eq_false_iff_ne]; have := He3.out; omega
                                                    have HP6 : Hid (parseS l = parseEnd neg B (X + (if ls = true then -powR D else powR D)) r2) := by
                                                      show parseS l = _
                                                      rw [HP5.out, if_neg hD0]
                                                      have h9 := pow_same neg B X D HDg.out hB hX1 hX2
                                                      unfold parseEnd
                                                      cases ls
                                                      · simp only [Bool.false_eq_true, if_false]; rw [h9.1]
                                                      · simp only [if_true]; rw [h9.2]
                                                    have hpb := powR_bd D
                                                    clear hD0 HP5
                                                    go_wp2_with fail
                                                    go_loopg [10, 11] D.length (fun k x i wc => ∃ j : Nat, k = D.length - j ∧ j ≤ D.length ∧ x = .int .i64 (powR (D.take j)) ∧ i = .int .i64 ((n2 + j : Nat) : Int) ∧ w1 = wc)
                                                    case atStart => exact ⟨0, rfl, by omega, rfl, rfl, rfl⟩
                                                    case round =>
                                                      obtain ⟨j, hk, hj, rfl, rfl, rfl⟩ := hrel
                                                      have Hk := Lib.hid hk
                                                      clear hk
                                                      by_cases hlt : j < D.length
                                                      · have hlt' : (((n2 + j : Nat) : Int)) < (e3 : Int) := by have := He3.out; omega
                                                        have hcl : n2 + j < l.length := by have := He3.out; omega
                                                        have hij := may_at l (n2 + j) hcl
                                                        have hgj : l.getD (n2 + j) 0 = D.getD j 0 := by
                                                          rw [← Htk.out]; simp [hlt]
                                                        rw [hgj] at hij
                                                        have hdj := Dig_getD HDg.out j hlt
                                                        have hbd := powR_bd (D.take j)
                                                        have hsn := powR_snoc (D.take j) (D.getD j 0) hdj.1
                                                        rw [← take_snoc8 D j hlt] at hsn
                                                        have Hsn := Lib.hid hsn
                                                        clear hsn hgj
                                                        generalize D.getD j 0 = c at *
                                                        go_wp2_with fail
                                                        go_roundg (D.length - (j + 1))
                                                        case measure => have := Hk.out; omega
                                                        case rel => exact ⟨j + 1, rfl, by omega, by rw [← Hsn.out], by go_num, rfl⟩
                                                      · obtain rfl : j = D.length := by omega
                                                        rw [List.take_of_length_le (Nat.le_refl _)]
                                                        have hge : ((n2 + D.length : Nat) : Int) = (e3 : Int) := by have := He3.out; omega
                                                        rw [hge]
                                                        clear hge
                                                        cases ls with
                                                        | true =>
                                                          go_wp2_with fail
                                                          go_meet
                                                          refine ⟨e3, X + -powR D, rfl, by go_num, he1, by omega, by omega, ?_, rfl⟩
                                                          show parseS l = _; rw [HP6.out, Hr3.out]; first | rfl | simp
                                                        | false =>
                                                          go_wp2_with fail
                                                          go_meet
                                                          refine ⟨e3, X + powR D, rfl, by go_num, he1, by omega, by omega, ?_, rfl⟩
                                                          show parseS l = _; rw [HP6.out, Hr3.out]; first | rfl | simp
                                case rest =>
                                  as_aux_lemma =>
                                    obtain ⟨n, X2, rfl, rfl, hn, hX3, hX4, HP6, rfl⟩ := hcut
                                    clear HP4 Hr hX1 hX2 hm
                                    have HP7 : Hid (parseS l = if l.drop n = [] then madeS neg B X2 else (Dec.zero, 170)) := HP6.out
                                    clear HP6
                                    by_cases hdr : l.drop n = []
                                    · have HP8 : Hid (parseS l = madeS neg B X2) := by show parseS l = _; rw [HP7.out, if_pos hdr]
                                      have h9 := drop_none hdr hn
                                      have h9' : ¬ (n : Int) < l.length := by omega
                                      clear h9 hdr HP7
                                      have hbz2 := hbz
                                      go_wp2_with fail
                                      refine (madeR_calls w1 neg B X2 (by omega) (by omega) (by omega)).mono ?_
                                      rintro e w2 ⟨⟨x, b, rfl, hx⟩, hb2⟩
                                      simp only [DecV]
                                      have hz := DecAt.under (w := w1) (w' := w2) (b := w.heap.size) (d := Dec.zero) ⟨c0, c1, c2, f0, f1, f2, World.block_lt_of_cell? w1 ⟨w.heap.size, 0, none⟩ c0⟩ hb2
                                      have hz3 := hz.alloc (Obj.cells #[Value.bool x.neg, Value.string { data := x.digits.toArray }, Value.int IntKind.i64 x.exp] 23)
                                      have hx3 := DecAt.at w2 x _ rfl
                                      have hbel := (hbz2.trans (hb2.mono hbz2.size))
                                      have hbel3 := hbel.alloc hbel.size (Obj.cells #[Value.bool x.neg, Value.string { data := x.digits.toArray }, Value.int IntKind.i64 x.exp] 23)
                                      clear c0 c1 c2 f0 f1 f2 hb2 hbel hz hbe
                                      have c0 := hz3.c0
                                      have c1 := hz3.c1
                                      have c2 := hz3.c2
                                      have f0 := hz3.f0
                                      have f1 := hz3.f1
                                      have f2 := hz3.f2
                                      have x0 := hx3.c0
                                      have x1 := hx3.c1
                                      have x2 := hx3.c2
                                      simp only [Dec.zero] at c0 c1 c2
                                      clear hz3 hx3
                                      have Hx := Lib.hid hx
                                      clear hx
                                      cases b with
                                      | true =>
                                        have HP9 : Hid (parseS l = (x, 0)) := by
                                          rcases Hx.out with ⟨_, h⟩ | ⟨h, _⟩
                                          · show parseS l = _; rw [HP8.out, h]
                                          · cases h
                                        clear Hx HP8
                                        have hbe := ((hbel3.setCell (p := ⟨w.heap.size, 0, none⟩) (Nat.le_refl _) (.bool x.neg)).setCell (p := ⟨w.heap.size, 1, none⟩) (Nat.le_refl _) (.string ⟨x.digits.toArray⟩)).setCell (p := ⟨w.heap.size, 2, none⟩) (Nat.le_refl _) (.int .i64 x.exp)
                                        go_wp2_with fail
                                        refine bodyPost_ret (v := .tuple #[.agg #[.bool x.neg, .string ⟨x.digits.toArray⟩, .int .i64 x.exp], .int .i64 0]) (by simp [results, Tryd.results11, go_sem, c0, c1, c2]) rfl ?_
                                        rw [HP9.out]
                                        exact ⟨rfl, hbe⟩
                                      | false =>
                                        have HP9 : Hid (parseS l = (Dec.zero, 4)) := by
                                          rcases Hx.out with ⟨h, _⟩ | ⟨_, h⟩
                                          · cases h
                                          · show parseS l = _; rw [HP8.out, h]
                                        clear Hx HP8
                                        have hbe := ((hbel3.setCell (p := ⟨w.heap.size, 0, none⟩) (Nat.le_refl _) (.bool false)).setCell (p := ⟨w.heap.size, 1, none⟩) (Nat.le_refl _) (.string ⟨#[]⟩)).setCell (p := ⟨w.heap.size, 2, none⟩) (Nat.le_refl _) (.int .i64 0)
                                        go_wp2_with fail
                                        refine bodyPost_ret (v := .tuple #[.agg #[.bool false, .string ⟨#[]⟩, .int .i64 0], .int .i64 4]) (by simp [results, Tryd.results11, go_sem, c0, c1, c2]) rfl ?_
                                        rw [HP9.out]
                                        exact ⟨rfl, hbe⟩
                                    · have HP8 : Hid (parseS l = (Dec.zero, 170)) := by show parseS l = _; rw [HP7.out, if_neg hdr]
                                      have h9' : (n : Int) < l.length := by
                                        have : n ≠ l.length := fun e => hdr (by rw [e]; exact List.drop_length)
                                        omega
                                      clear hdr HP7
                                      go_wp2_with fail
                                      refine bodyPost_ret (v := .tuple #[.agg #[.bool false, .string ⟨#[]⟩, .int .i64 0], .int .i64 170]) (by simp [results, Tryd.results11, go_sem, c0, c1, c2]) rfl ?_
                                      rw [HP8.out]
                                      exact ⟨rfl, hbe⟩
end Go.Proofs.YtkakmjdfecbhaaaDoor
