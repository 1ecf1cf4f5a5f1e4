/- The walk of decimal.made: what it answers, over any world; powers up to 10^12, digits up to 10^10. -/
import Derived.Test.YtkakmjdfecbhaaaGreatDoorDec1
namespace Go.Proofs.YtkakmjdfecbhaaaGreatDoor
open Go.RowKit

theorem made_calls (w : World) (neg : Bool) (l : List UInt8) (exp : Int) (hl : l.length ≤ 10000000000) (h1 : -1000000000000 ≤ exp) (h2 : exp ≤ 1000000000000) :
    Calls Tryz.prog 30 #[.bool neg, .string ⟨l.toArray⟩, .int .i64 exp] w fun e w' => e = .returned (.tuple #[DecV (madeS neg l exp).1, .int .i64 (madeS neg l exp).2]) ∧ Below w.heap.size w w' := by
  have hl0 := trim0_len l
  cases h : trim0 l with
  | nil =>
    have hm : madeS neg l exp = (Dec.zero, 0) := by simp [madeS, h]
    rw [hm]
    have H := Lib.hid h
    clear h hm
    go_enter Tryz.func30, Tryz.ntmps30
    go_wp2_with fail
    refine (same (Tryz.strings_TrimLeft_one ⟨l.toArray⟩ 48 (by decide) _)).mono ?_
    rintro e w1 ⟨rfl, rfl⟩
    rw [show Lib.trimLeftB l 48 = [] from H.out]
    go_wp2
    go_returns
    exact ⟨rfl, by go_grown⟩
  | cons c t =>
    rw [h] at hl0
    have hlr := trimR_len (c :: t)
    have hm : madeS neg l exp = if mayB (decOf neg (c :: t) exp) then (decOf neg (c :: t) exp, 0) else (Dec.zero, 4) := by simp [madeS, h]
    have H := Lib.hid h
    have Hm := Lib.hid hm
    clear h hm
    simp only [List.length_cons] at hl0 hlr
    go_enter Tryz.func30, Tryz.ntmps30
    go_wp2_with fail
    refine (same (Tryz.strings_TrimLeft_one ⟨l.toArray⟩ 48 (by decide) _)).mono ?_
    rintro e w1 ⟨rfl, rfl⟩
    rw [show Lib.trimLeftB l 48 = c :: t from H.out]
    go_wp2_with fail
    refine (same (Tryz.strings_TrimRight_one ⟨(c :: t).toArray⟩ 48 (by decide) _ (by simp [ByteArray.size]; omega))).mono ?_
    rintro e w1 ⟨rfl, rfl⟩
    rw [show Lib.trimRightB (c :: t) 48 = trimR (c :: t) from rfl]
    have he : decOf neg (c :: t) exp = ⟨neg, trimR (c :: t), exp + ((t.length : Int) + 1) - ((trimR (c :: t)).length : Int)⟩ := by simp [decOf]
    rw [he] at Hm
    clear he
    have hr9 : (trimR (c :: t)).length ≤ 100000000000 := by omega
    generalize hE : exp + ((t.length : Int) + 1) - ((trimR (c :: t)).length : Int) = E at *
    have HE := Lib.hid hE
    clear hE
    go_wp2_with fail
    rw [HE.out]
    generalize hR : trimR (c :: t) = R at *
    clear hR
    refine (check_calls _ ⟨neg, R, E⟩ hr9).mono ?_
    rintro e w2 ⟨rfl, hb2⟩
    simp only [World.size_alloc] at hb2
    have c0 := hb2.cell (p := ⟨w.heap.size + 1, 0, none⟩) (by simp)
    have c1 := hb2.cell (p := ⟨w.heap.size + 1, 1, none⟩) (by simp)
    have c2 := hb2.cell (p := ⟨w.heap.size + 1, 2, none⟩) (by simp)
    have r0 := hb2.cell (p := ⟨w.heap.size, 0, none⟩) (by simp; omega)
    have r1 := hb2.cell (p := ⟨w.heap.size, 1, none⟩) (by simp; omega)
    have r2 := hb2.cell (p := ⟨w.heap.size, 2, none⟩) (by simp; omega)
    have f0 := hb2.frozen (p := ⟨w.heap.size, 0, none⟩) (by simp; omega)
    have f1 := hb2.frozen (p := ⟨w.heap.size, 1, none⟩) (by simp; omega)
    have f2 := hb2.frozen (p := ⟨w.heap.size, 2, none⟩) (by simp; omega)
    have hs2 := hb2.size
    simp at c0 c1 c2 r0 r1 r2 f0 f1 f2 hs2
    have hb : Below w.heap.size w w2 := (((Below.refl _ _).alloc (Nat.le_refl _) _).alloc (by simp) _).trans (hb2.mono (by omega))
    clear hb2
    cases hm : mayB ⟨neg, R, E⟩ with
    | true =>
      have hk : chk ⟨neg, R, E⟩ = 0 := by simp [chk, hm]
      have Hf : Hid (madeS neg l exp = (⟨neg, R, E⟩, 0)) := by show madeS neg l exp = _; rw [Hm.out, hm]; rfl
      rw [hk]
      clear hk hm
      go_wp2
      refine bodyPost_ret (v := .tuple #[.agg #[.bool neg, .string ⟨R.toArray⟩, .int .i64 E], .int .i64 0]) (by simp [results, Tryz.results30, go_sem, r0, r1, r2]) rfl ?_
      rw [Hf.out]
      exact ⟨rfl, by go_grown⟩
    | false =>
      have hk : chk ⟨neg, R, E⟩ = 2 := by simp [chk, hm]
      have Hf : Hid (madeS neg l exp = (Dec.zero, 4)) := by show madeS neg l exp = _; rw [Hm.out, hm]; rfl
      rw [hk]
      clear hk hm
      go_wp2
      refine bodyPost_ret (v := .tuple #[.agg #[.bool false, .string ⟨#[]⟩, .int .i64 0], .int .i64 4]) (by simp [results, Tryz.results30, go_sem, r0, r1, r2]) rfl ?_
      rw [Hf.out]
      exact ⟨rfl, by go_grown⟩
end Go.Proofs.YtkakmjdfecbhaaaGreatDoor
