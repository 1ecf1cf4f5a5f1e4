/- Texts of this claim, joined: Fac, Jp16, Va1. -/
import Derived.Test.YtfclfaidmipjpaaGreatDoorCo28
namespace Go.Proofs.YtfclfaidmipjpaaGreatDoor
set_option maxRecDepth 100000
set_option maxHeartbeats 20000000
open Go.Lib (hid)
open Go.RowKit
theorem faceIdle (p : Addr) (w : World) :
  CallsD Tryz.prog 80 #[.pointer (some p)] .returning w fun e u' w' => e = .returned (.tuple #[]) ∧ u' = .returning ∧ w' = w := by
 refine callsD_of_wpS Tryz.func80 rfl fun c₀ cs hu => ?_
 apply wpS_seq
 apply wpS_region
 simp [wpOpsS, go_sem, recoverD, hu, Tryz.ntmps80, Exit.thenS]
 refine wpS_of_wp ?_
 go_wp2
 cases c₀
 simp_all [bodyPostS, results, Tryz.results80]
theorem face_calls (w : World) (cap : Array Value) (K : World → Prop)
  (hdo : Calls Tryz.prog 47 cap (w.alloc (.cells #[.int .i64 0] 31)) fun e w' => e = .returned (.tuple #[]) ∧ K w')
  (hK : ∀ w', K w' → w'.cell? ⟨w.heap.size, 0, none⟩ = some (.int .i64 0) ∧ w'.frozen? ⟨w.heap.size, 0, none⟩ = false) :
  Calls Tryz.prog 46 #[.func (.func 47) #[] cap] w fun e w' => e = .returned (.int .i64 0) ∧ ∃ w1, K w1 ∧ w' = w1.setCell ⟨w.heap.size, 0, none⟩ (.int .i64 0) := by
 have hmf : ∀ (fn : Fn) (first cap : Array Value) (w : World), (Instr.makeFunc fn first cap).run Tryz.prog w = .ok (.func fn first cap) w := fun _ _ _ _ => rfl
 go_enter_defers Tryz.func46, Tryz.ntmps46
 go_wp2_with fail
 refine hdo.mono ?_
 rintro e w1 ⟨rfl, hk⟩
 obtain ⟨c0, f0⟩ := hK w1 hk
 have HKK := hid hk
 clear hk hK hdo
 go_wp2_with fail
 refine leaves_cons (f := 80) (args := #[.pointer (some ⟨w.heap.size, 0, none⟩)]) (by simp) (by simp [go_sem]) ?_
 refine (faceIdle ⟨w.heap.size, 0, none⟩ _).mono ?_
 rintro e u' w'' ⟨rfl, rfl, rfl⟩
 have c1 : (w1.setCell ⟨w.heap.size, 0, none⟩ (.int .i64 0)).cell? ⟨w.heap.size, 0, none⟩ = some (.int .i64 0) := World.cell?_setCell_same _ _ _ c0
 simp [Leaves, settle, results, Tryz.results46, go_sem, c1]
 exact ⟨w1, HKK.out, rfl⟩
open Go.RowKit
def CloTo (w : World) (R g7 : Nat) (v : J) (r : List UInt8) (f2 : Fl) (w' : World) : Prop :=
 Apart (fun k => k = R ∨ k = g7) w w' ∧ PdAt w' R r f2.alone f2.twice f2.great ∧ ∃ lv nv, RowAt w' g7 (jcells (v, lv, nv)) ∧ JV w' (fun k => w.heap.size ≤ k) (v, lv, nv)
theorem clo_calls (w : World) {R pr g7 : Nat} {s : List UInt8} {k d : Nat} {f : Fl} {v : J} {r : List UInt8} {f2 : Fl} (h : PdAt w R s f.alone f.twice f.great) (hp : w.cell? ⟨pr, 0, none⟩ = some (.pointer (some ⟨R, 0, none⟩))) (hv : RowAt w g7 jz) (hne : R ≠ g7) (hl : s.length ≤ 100000000)
  (hs : valS [0] k d s f = some (v, r, f2)) :
  Calls Tryz.prog 47 #[.pointer (some ⟨pr, 0, none⟩), .pointer (some ⟨g7, 0, none⟩)] w fun e w' => e = .returned (.tuple #[]) ∧ CloTo w R g7 v r f2 w' := by
 have HV := hid (valueP_all k w R s d f v r f2 h hl hs)
 have HV7 := hid hv
 have HNE := hid hne
 clear h hs hne hv
 go_enter Tryz.func47, Tryz.ntmps47
 go_wp2_with fail
 refine HV.out.mono ?_
 rintro e w1 ⟨ho, hr, lv, nv, rfl, hj⟩
 have HRO := hid (HV7.out.apart ho (fun e => HNE.out e.symm))
 have HJ := hid hj
 have HO := hid ho
 have HR := hid hr
 clear ho hr hj hp
 obtain ⟨kd, bb, ⟨ng, dg, ex⟩, tx, l2, ns2⟩ := v
 obtain ⟨p1, c1, p2, c2e, e1, e2⟩ := HJ.out.slices
 simp only at e1 e2
 subst e1 e2
 simp only [jval, J.kind, J.b, J.n, J.t]
 go_wp2_with (refine wpList_store8 rfl _ _ rfl rfl HRO.out rfl _ _ _ _ _ _ _ _ rfl rfl rfl ?_)
 first | go_end0 | go_ret
 have hs8 := set8_apart w1 g7 (.int .i64 kd) (.bool bb) (.bool ng) (.string ⟨dg.toArray⟩) (.int .i64 ex) (.string ⟨tx.toArray⟩) (.slice p1 (J.mk kd bb ⟨ng, dg, ex⟩ tx l2 ns2).l.length c1) (.slice p2 (J.mk kd bb ⟨ng, dg, ex⟩ tx l2 ns2).ns.length c2e)
 have hrow := set8_row HRO.out rfl (.int .i64 kd) (.bool bb) (.bool ng) (.string ⟨dg.toArray⟩) (.int .i64 ex) (.string ⟨tx.toArray⟩) (.slice p1 (J.mk kd bb ⟨ng, dg, ex⟩ tx l2 ns2).l.length c1) (.slice p2 (J.mk kd bb ⟨ng, dg, ex⟩ tx l2 ns2).ns.length c2e)
 have hg7 : g7 < w.heap.size := HV7.out.lt
 exact ⟨rfl, Apart.trans (Apart.trans (Apart.refl (fun k => k = R ∨ k = g7) w) HO.out (fun _ _ e => .inl e)) hs8 (fun _ _ e => .inr e), HR.out.apart hs8 HNE.out, _, _, hrow, HJ.out.apart hs8 (fun k hk _ e => by omega)⟩
open Go.RowKit Go.Lib
def TailV (w : World) (b : Nat) (v : Value) (l : List UInt8) : Prop :=
 ∃ p, v = .slice p l.length l.length ∧ (0 < l.length → ∃ off, p = some ⟨b, off, none⟩ ∧ ∀ j, j < l.length → w.cell? ⟨b, off + j, none⟩ = some (.int .u8 ((l.getD j 0).toNat : Int)))
theorem TailV.nil (w : World) (b : Nat) (p : Option Addr) : TailV w b (.slice p 0 0) [] := ⟨p, rfl, fun h => absurd h (by simp)⟩
theorem byteArray_get (l : List UInt8) (j : Nat) : (⟨l.toArray⟩ : ByteArray).get! j = l.getD j 0 := by
 rw [← getD_get!']
def w8 (l : List UInt8) : Nat := leNat [l.getD 0 0, l.getD 1 0, l.getD 2 0, l.getD 3 0, l.getD 4 0, l.getD 5 0, l.getD 6 0, l.getD 7 0]
def AscL (l : List UInt8) (k : Nat) : Prop := ∀ c ∈ l.take k, c.toNat < 128
theorem w8_asc {l : List UInt8} (h : 8 ≤ l.length) (hz : w8 l &&& 9259542123273814144 = 0) : AscL l 8 := by
 have h1 := word_asc (⟨l.toArray⟩ : ByteArray) (by simpa [ByteArray.size] using h)
 simp only [byteArray_get] at h1
 have h2 := h1.1 hz
 unfold Asc at h2
 exact h2
theorem w8_lt (l : List UInt8) : w8 l < 18446744073709551616 := by
 have h := word_lt (⟨l.toArray⟩ : ByteArray)
 simp only [byteArray_get] at h
 exact h
theorem asc_more {l : List UInt8} {a b : Nat} (h1 : AscL l a) (h2 : AscL (l.drop a) b) : AscL l (a + b) := by
 unfold AscL at *
 rw [List.take_add]
 intro c hc
 rcases List.mem_append.1 hc with h | h
 ·exact h1 c h
 exact h2 c h
theorem valid_drop {l : List UInt8} {k : Nat} (h : AscL l k) : validD (l.drop k) = validD l := (validD_ascii k l h).symm
theorem asc_head {l : List UInt8} (h0 : 0 < l.length) (h : (l.getD 0 0).toNat < 128) : AscL l 1 := by
 cases l with
 | nil => simp at h0
 | cons c t =>
  intro d hd
  simp at hd
  subst hd
  simpa using h
theorem word_calls (w : World) {b off m c : Nat} {l : List UInt8} (hm : 8 ≤ m) (hk : ∀ j, j < 8 → w.cell? ⟨b, off + j, none⟩ = some (.int .u8 ((l.getD j 0).toNat : Int))) :
  Calls Tryz.prog 76 #[.slice (some ⟨b, off, none⟩) m c] w fun e w' => e = .returned (.int .u64 (w8 l)) ∧ ∃ q, w' = w.drewN q := by
 have c0 := hk 0 (by decide); have c1 := hk 1 (by decide); have c2 := hk 2 (by decide); have c3 := hk 3 (by decide)
 have c4 := hk 4 (by decide); have c5 := hk 5 (by decide); have c6 := hk 6 (by decide); have c7 := hk 7 (by decide)
 rw [Nat.add_zero] at c0
 clear hk
 unfold w8
 generalize l.getD 0 0 = x0 at *
 generalize l.getD 1 0 = x1 at *
 generalize l.getD 2 0 = x2 at *
 generalize l.getD 3 0 = x3 at *
 generalize l.getD 4 0 = x4 at *
 generalize l.getD 5 0 = x5 at *
 generalize l.getD 6 0 = x6 at *
 generalize l.getD 7 0 = x7 at *
 have h0 : x0.toNat < 256 := x0.toNat_lt; have h1 : x1.toNat < 256 := x1.toNat_lt; have h2 : x2.toNat < 256 := x2.toNat_lt; have h3 : x3.toNat < 256 := x3.toNat_lt
 have h4 : x4.toNat < 256 := x4.toNat_lt; have h5 : x5.toNat < 256 := x5.toNat_lt; have h6 : x6.toNat < 256 := x6.toNat_lt; have h7 : x7.toNat < 256 := x7.toNat_lt
 have hv : ((leNat [x0, x1, x2, x3, x4, x5, x6, x7] : Nat) : Int) = (x0.toNat : Int) + (x1.toNat : Int) * 256 + (x2.toNat : Int) * 65536 + (x3.toNat : Int) * 16777216 + (x4.toNat : Int) * 4294967296 + (x5.toNat : Int) * 1099511627776 + (x6.toNat : Int) * 281474976710656 + (x7.toNat : Int) * 72057594037927936 := by
  simp only [leNat]
  push_cast
  omega
 have q0 : (0 : Int) < (m : Int) := by omega
 have q1 : (1 : Int) < (m : Int) := by omega
 have q2 : (2 : Int) < (m : Int) := by omega
 have q3 : (3 : Int) < (m : Int) := by omega
 have q4 : (4 : Int) < (m : Int) := by omega
 have q5 : (5 : Int) < (m : Int) := by omega
 have q6 : (6 : Int) < (m : Int) := by omega
 have q7 : (7 : Int) < (m : Int) := by omega
 have p0 : 0 < m := by omega
 have p1 : 1 < m := by omega
 have p2 : 2 < m := by omega
 have p3 : 3 < m := by omega
 have p4 : 4 < m := by omega
 have p5 : 5 < m := by omega
 have p6 : 6 < m := by omega
 have p7 : 7 < m := by omega
 have mixed : Tryz.prog.follows .mixedOrders = true := by kernel_rfl
 go_enter Tryz.func76, Tryz.ntmps76
 go_wp2
 go_quiet_o (fail)
 go_wp2
 go_ret
 refine ⟨?_, _, rfl⟩
 simp (disch := omega) only [u64_wrap_id, u64_or8, u64_or16, u64_or24, u64_or32, u64_or40, u64_or48, u64_or56]
 rw [hv]
 rfl
end Go.Proofs.YtfclfaidmipjpaaGreatDoor
