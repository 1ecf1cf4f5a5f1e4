/- The walks of nat.small, nat.div and common: product by a word, quotient and rest, greatest common divisor, as numbers, over any world, at numbers without noughts ahead; lengths up to 10^10. -/
import Derived.Test.YtkakmjdfecbhaaaGreatDoorNat3
namespace Go.Proofs.YtkakmjdfecbhaaaGreatDoor
open Go.RowKit

set_option maxRecDepth 100000 in
theorem small_calls (w : World) (B1 : Nat) (va : Value) (xs : List Nat) (y : Nat) (yi : Int) (hy : yi = (y : Int)) (ha : NatV w B1 va xs) (oka : Ok xs) (oky : y < base)
    (la : xs.length ≤ 100000000000) :
    Calls Tryz.prog 70 #[va, .int .u64 yi] w fun e w' => ∃ v' zs, e = .returned v' ∧ NatV w' w.heap.size v' zs ∧ Norm zs ∧ val zs = val xs * y ∧ zs.length ≤ xs.length + 1 ∧ Below w.heap.size w w' := by
  have Hy := Lib.hid hy
  clear hy
  go_enter Tryz.func70, Tryz.ntmps70
  go_wp2_with fail
  refine (plain_calls _ w.heap.size _ [y] (NatV.one w yi y Hy.out)).mono ?_
  rintro e w1 ⟨⟨v', rfl, hv'⟩, rfl⟩
  have hb : Below w.heap.size w (w.alloc (.cells #[.int .u64 yi] 90)) := (Below.refl _ _).alloc (Nat.le_refl _) _
  have hlp := len_plain [y]
  have Hlp : (plainL [y]).length ≤ 1 := hlp
  go_wp2_with fail
  refine (mul_calls _ B1 _ _ _ xs _ (ha.below hb) hv' oka ((plain_val _ [y] rfl).2.1 (Ok_cons oky Ok_nil)) la (by omega)).mono ?_
  rintro e w1 ⟨v2, zs, rfl, hv2, hn, hval, hl, hb2⟩
  go_wp2
  go_ret
  exact ⟨_, zs, rfl, hv2.le (by simp), hn, by rw [hval, val_plain, val_one], by omega, hb.trans (hb2.mono (by simp))⟩

set_option maxRecDepth 100000 in
theorem div_calls (w : World) (B1 B2 : Nat) (va vb : Value) (xs ys : List Nat) (ha : NatV w B1 va xs) (hb : NatV w B2 vb ys) (oka : Ok xs) (nb : Norm ys) (hpos : 0 < val ys)
    (la : xs.length ≤ 10000000000) (lb : ys.length ≤ 10000000000) :
    Calls Tryz.prog 44 #[va, vb] w fun e w' => ∃ v1 v2 qs rs, e = .returned (.tuple #[v1, v2]) ∧ NatV w' w.heap.size v1 qs ∧ NatV w' w.heap.size v2 rs ∧ Norm qs ∧ Norm rs ∧
      val qs = val xs / val ys ∧ val rs = val xs % val ys ∧ qs.length ≤ xs.length ∧ rs.length ≤ ys.length ∧ Below w.heap.size w w' := by
  obtain ⟨pa, capa, rfl⟩ := ha.form
  obtain ⟨pb, capb, rfl⟩ := hb.form
  go_enter Tryz.func44, Tryz.ntmps44
  go_wp2_with (at_make; go_must (refine wpList_make_words rfl _ _ rfl _ _ xs.length rfl rfl rfl rfl (by omega) ?_))
  intro w0 hv0 hb0
  have hlb := nb
  go_wp2_with fail
  go_loopg [7, 8] (xs.length + 1) (fun k rest i wr => ∃ (j : Nat) (qs rs : List Nat), k = j + 1 ∧ j ≤ xs.length ∧ i = .int .i64 ((j : Int) - 1) ∧
    NatV wr (w.heap.size + 1) rest rs ∧ Norm rs ∧ val rs < val ys ∧ NatV wr w.heap.size (.slice (some ⟨w.heap.size, 0, none⟩) xs.length xs.length) qs ∧ qs.length = xs.length ∧ Ok qs ∧
    val (xs.drop j) = val (qs.drop j) * val ys + val rs ∧ Below w.heap.size w wr ∧ w.heap.size < wr.heap.size)
  case atStart =>
    refine ⟨xs.length, List.replicate xs.length 0, [], rfl, Nat.le_refl _, rfl, NatV.nil _ _, Norm_nil, hpos, hv0, by simp, Ok_replicate _, ?_, hb0, ?_⟩
    · rw [List.drop_of_length_le (Nat.le_refl _), List.drop_of_length_le (by simp)]; simp [val]
    · exact (hv0.cap).2.2.2.1
  case round =>
    obtain ⟨j, qs, rs, rfl, hj, rfl, hrs, nrs, hrlt, hqs, hlqs, okq, hval, hbel, hsz⟩ := hrel
    have Hval := Lib.hid hval
    have Hlqs := Lib.hid hlqs
    have hrl : rs.length ≤ ys.length := Norm_le_len nb.1 nrs (by omega)
    clear hval hlqs hv0 hb0
    cases j with
    | zero =>
      go_wp2_with fail
      refine (plain_calls wr w.heap.size _ qs hqs).mono ?_
      rintro e w1 ⟨⟨v', rfl, hv'⟩, rfl⟩
      go_wp2
      go_returns
      have hv := Hval.out
      rw [List.drop_zero, List.drop_zero] at hv
      have hl := Hlqs.out
      refine ⟨_, _, _, rs, rfl, hv', hrs.le (by omega), Norm_plain okq, nrs, ?_, ?_, ?_, hrl, hbel⟩
      · rw [val_plain, hv, Nat.mul_comm, Nat.mul_add_div hpos, Nat.div_eq_of_lt hrlt, Nat.add_zero]
      · rw [hv, Nat.mul_comm, Nat.mul_add_mod, Nat.mod_eq_of_lt hrlt]
      · have := len_plain qs; omega
    | succ j =>
      have e : ((j + 1 : Nat) : Int) - 1 = (j : Int) := by omega
      rw [e]
      clear e
      rcases ha.forms with ⟨_, h⟩ | ⟨g, cap, h⟩
      · rw [h] at hj; simp at hj
      cases h
      have c1 := (ha.below hbel).cell j (by omega)
      have hjx : (j : Int) < xs.length := by omega
      have hn1 := Ok_nth oka j
      go_wp2_with (at_builtin; go_must (refine wpList_append_words rfl _ _ rfl wr.heap.size (w.heap.size + 1) _ _ [nth xs j] rs rfl (NatV.one wr _ _ rfl) rfl (hrs.alloc _) ?hlen ?hbase ?_))
      case hlen => simp; omega
      case hbase => simp
      intro va wa hva hga
      have hba : Below wr.heap.size wr wa := ((Below.refl _ _).alloc (Nat.le_refl _) _).grown hga (by simp) (by intro k hk; simp [Value.ownBlock] at hk; omega)
      clear c1 hga
      go_wp2_with fail
      refine (plain_calls wa wr.heap.size _ _ hva).mono ?_
      rintro e w1 ⟨⟨vr, rfl, hvr⟩, rfl⟩
      have hR : val (plainL (nth xs j :: rs)) = nth xs j + base * val rs := by rw [val_plain]; rfl
      have nR : Norm (plainL (nth xs j :: rs)) := Norm_plain (Ok_cons hn1 nrs.1)
      generalize plainL (nth xs j :: rs) = rr at *
      have hRlt : val rr < base * val ys := by rw [hR]; exact div_big _ _ _ hn1 hrlt
      have hrrl := div_long nR nb.1 hRlt
      have HR := Lib.hid hR
      clear hR
      have hbw : Below w.heap.size w wa := hbel.trans (hba.mono (by omega))
      have hyw := hb.below hbw
      have hqw := hqs.below hba
      have hszw : w.heap.size < wa.heap.size := by have := hba.size; omega
      have hwa : wr.heap.size ≤ wa.heap.size := hba.size
      go_wp2_with fail
      obtain ⟨wx, rfl⟩ : ∃ wx : World, wx = wr := ⟨_, rfl⟩
      go_loopg [9, 10] base (fun k lo hi wi => ∃ (l h : Nat), k = h - l ∧ l < h ∧ h ≤ base ∧ lo = .int .u64 l ∧ hi = .int .u64 h ∧ l * val ys ≤ val rr ∧ val rr < h * val ys ∧ Below wa.heap.size wa wi)
      case atStart => exact ⟨0, base, rfl, base_pos, Nat.le_refl _, rfl, by rw [base_eq]; rfl, by omega, hRlt, Below.refl _ _⟩
      case round =>
        obtain ⟨l, h, hk, hlh, hhb, rfl, rfl, hlow, hhigh, hbi⟩ := hrel
        obtain ⟨wi, rfl⟩ : ∃ wi : World, wi = wr := ⟨_, rfl⟩
        have Hk := Lib.hid hk
        have hhb' := hhb
        rw [base_eq] at hhb'
        clear hk
        by_cases hgo : 1 < h - l
        · have hgo' : (1 : Int) < (h : Int) - l := by omega
          go_wp2_with fail
          refine (small_calls _ B2 _ ys ((l + h) / 2) _ (by omega) (hyw.below hbi) nb.1 (by omega) (by omega)).mono ?_
          rintro e w2 ⟨v2, zs, rfl, hv2, nz, hvz, hlz, hb2⟩
          go_wp2_with fail
          refine (cmp_calls _ _ _ _ _ zs rr hv2 ((hvr.below hbi).below hb2) nz nR).mono ?_
          rintro e w3 ⟨r, n, rfl, hr1, hr2, rfl⟩
          have hb3 : Below wa.heap.size wa (w2.drewN n) := below_drewN (hbi.trans (hb2.mono hbi.size)) _
          have Hvz := Lib.hid hvz
          have Hr1 := Lib.hid hr1
          have Hr2 := Lib.hid hr2
          clear hvz hr1 hr2
          by_cases hr : r ≤ 0
          · go_wp2_with fail
            go_roundg (h - (l + h) / 2)
            case measure => have := Hk.out; omega
            case rel =>
              refine ⟨(l + h) / 2, h, rfl, by omega, hhb, by go_num, rfl, ?_, hhigh, hb3⟩
              have h1 := Hvz.out; have h2 := Hr1.out; have h3 := Hr2.out
              rw [Nat.mul_comm, ← h1]; omega
          · go_wp2_with fail
            go_roundg ((l + h) / 2 - l)
            case measure => have := Hk.out; omega
            case rel =>
              refine ⟨l, (l + h) / 2, rfl, by omega, by omega, rfl, by go_num, hlow, ?_, hb3⟩
              have h1 := Hvz.out; have h2 := Hr1.out; have h3 := Hr2.out
              rw [Nat.mul_comm, ← h1]; omega
        · have hgo' : ¬ (1 : Int) < (h : Int) - l := by omega
          have hqi := hqw.below hbi
          have hlq : xs.length ≤ qs.length := by have := Hlqs.out; omega
          have hc := hqi.cell j (by omega)
          have hf := hqi.frozen j
          have hri := hvr.below hbi
          have hyi := hyw.below hbi
          have hszi : w.heap.size < wi.heap.size := by have := hbi.size; omega
          have hlb' : l < base := by omega
          have hqn := hqi.set j l _ rfl
          have hrn := hri.set_other (g := w.heap.size) (by intro e; have := (World.ownsRow.lt hri _ e).1; omega) j (.int .u64 (l : Int))
          have hyn := hyi.set_other (g := w.heap.size) (by intro e; have := (World.ownsRow.lt hb _ e).2; omega) j (.int .u64 (l : Int))
          have hbn : Below w.heap.size w (wi.setCell ⟨w.heap.size, j, none⟩ (.int .u64 (l : Int))) := (hbw.trans (hbi.mono (by omega))).setCell (Nat.le_refl _) _
          have hszn : w.heap.size < (wi.setCell ⟨w.heap.size, j, none⟩ (.int .u64 (l : Int))).heap.size := by simp; exact hszi
          go_wp2_with fail
          generalize wi.setCell ⟨w.heap.size, j, none⟩ (.int .u64 (l : Int)) = ws at *
          clear hc hf hqi hri hyi
          refine (small_calls ws B2 _ ys l _ rfl hyn nb.1 hlb' (by omega)).mono ?_
          rintro e w2 ⟨v2, zs, rfl, hv2, nz, hvz, hlz, hb2⟩
          have Hvz := Lib.hid hvz
          clear hvz
          go_wp2_with fail
          refine (sub_calls w2 _ _ _ _ rr zs (hrn.below hb2) hv2 nR.1 nz (by omega) (by rw [Hvz.out, Nat.mul_comm]; exact hlow)).mono ?_
          rintro e w3 ⟨v3, rs', rfl, hv3, nr3, hvr3, hlr3, hb3⟩
          have hs2 := hb2.size
          have hs3 := hb3.size
          have Hvr3 := Lib.hid hvr3
          clear hvr3
          go_wp2_with fail
          go_roundg (j + 1)
          case measure => omega
          case rel =>
            have hv1 := Hvz.out
            have hv2' := Hvr3.out
            rw [hv1, Nat.mul_comm] at hv2'
            have hl := Hlqs.out
            refine ⟨j, qs.set j l, rs', rfl, by omega, rfl, hv3.le (by omega), nr3, ?_, (hqn.below hb2).below hb3, by rw [List.length_set]; exact hl, Ok_set okq _ _ hlb', ?_, (hbn.trans (hb2.mono (by omega))).trans (hb3.mono (by omega)), by omega⟩
            · rw [hv2']; exact div_rest l h _ _ hlow hhigh (by omega)
            · rw [drop_nth xs j (by omega), drop_set_cons qs j l (by omega), val_cons, val_cons, hv2', HR.out]
              rw [HR.out] at hlow
              exact div_word _ _ _ _ _ _ Hval.out hlow
end Go.Proofs.YtkakmjdfecbhaaaGreatDoor
