/- Texts of this claim, joined: Onc, Tri, Trj. -/
import Derived.Test.YtfclfaidmipjpaaGreatDoorCo00
namespace Go.Proofs.YtfclfaidmipjpaaGreatDoor
set_option maxRecDepth 100000
set_option maxHeartbeats 20000000
open Go.Lib (hid)
open Go.RowKit
theorem sy_disable (w : World) : (callFunc 230 #[]).run Tryz.prog w = .ok (.value (.tuple #[])) w := run_call_mark0 Tryz.func230 (by kernel_rfl) (by kernel_rfl) (by kernel_rfl) .disable (by kernel_rfl) w
theorem sy_enable (w : World) : (callFunc 232 #[]).run Tryz.prog w = .ok (.value (.tuple #[])) w := run_call_mark0 Tryz.func232 (by kernel_rfl) (by kernel_rfl) (by kernel_rfl) .enable (by kernel_rfl) w
theorem sy_acquire (a : Addr) (w : World) : (callFunc 233 #[.pointer (some a)]).run Tryz.prog w = .ok (.value (.tuple #[])) w := run_call_marked Tryz.func233 (by kernel_rfl) (by kernel_rfl) (by kernel_rfl) .acquire (by kernel_rfl) a w
theorem sy_release (a : Addr) (w : World) : (callFunc 235 #[.pointer (some a)]).run Tryz.prog w = .ok (.value (.tuple #[])) w := run_call_marked Tryz.func235 (by kernel_rfl) (by kernel_rfl) (by kernel_rfl) .releaseMerge (by kernel_rfl) a w
theorem lock_in (a : Addr) (w : World) (hc : w.cell? a = some (.int .i32 0)) (hz : w.frozen? a = false) :
  Calls Tryz.prog 206 #[.pointer (some a)] w fun e w' => e = .returned (.tuple #[]) ∧ w' = w.setCell a (.int .i32 1) := by
 have hd := sy_disable
 have he := sy_enable
 have ha := sy_acquire
 have hcas := run_call_cas_hit (P := Tryz.prog) Tryz.func231 (by kernel_rfl) (by kernel_rfl) (by kernel_rfl) .i32 (by kernel_rfl) (y := 1) hc hz
 have hc' : (w.setCell a (.int .i32 1)).cell? a = some (.int .i32 1) := World.cell?_setCell_same w a _ hc
 have hcv := run_convert_to_unsafe (P := Tryz.prog) (src := 268) (dst := 228) Tryz.underlying268 Tryz.underlying228 (by kernel_rfl) hc'
 go_enter Tryz.func206, Tryz.ntmps206
 go_wp2
 first | go_end0 | (simp only [Exit.inBlock, Exit.then]; refine bodyPost_ret (results_none rfl _ _ _) rfl ?_) | refine bodyPost_ret (results_none rfl _ _ _) rfl ?_
 exact ⟨rfl, rfl⟩
theorem lock_calls (b off : Nat) (w : World) (hc : w.cell? ⟨b, off, none⟩ = some (.int .i32 0)) (hz : w.frozen? ⟨b, off, none⟩ = false) :
  Calls Tryz.prog 165 #[.pointer (some ⟨b, off, none⟩)] w fun e w' => e = .returned (.tuple #[]) ∧ w' = w.setCell ⟨b, off, none⟩ (.int .i32 1) := by
 go_enter Tryz.func165, Tryz.ntmps165
 go_wp2_with fail
 refine (lock_in _ w hc hz).mono ?_
 rintro e w1 ⟨rfl, rfl⟩
 go_wp2_with fail
 go_end0
 exact ⟨rfl, rfl⟩
theorem unlock_in (a : Addr) (w : World) (hc : w.cell? a = some (.int .i32 1)) (hz : w.frozen? a = false) :
  Calls Tryz.prog 207 #[.pointer (some a)] w fun e w' => e = .returned (.tuple #[]) ∧ w' = w.setCell a (.int .i32 0) := by
 have hd := sy_disable
 have he := sy_enable
 have hr := sy_release
 have hadd := run_call_add (P := Tryz.prog) Tryz.func236 (by kernel_rfl) (by kernel_rfl) (by kernel_rfl) .i32 (by kernel_rfl) (y := -1) (s := 0) hc hz (by simp [go_sem]; rfl)
 have hcv := run_convert_to_unsafe (P := Tryz.prog) (src := 268) (dst := 228) Tryz.underlying268 Tryz.underlying228 (by kernel_rfl) hc
 go_enter Tryz.func207, Tryz.ntmps207
 go_wp2
 go_end0
 exact ⟨rfl, rfl⟩
theorem unlock_deferred (b off : Nat) (u : FrameMode) (w : World) (hc : w.cell? ⟨b, off, none⟩ = some (.int .i32 1)) (hz : w.frozen? ⟨b, off, none⟩ = false) :
  CallsD Tryz.prog 166 #[.pointer (some ⟨b, off, none⟩)] u w fun e u' w' => u' = u ∧ (e = .returned (.tuple #[]) ∧ w' = w.setCell ⟨b, off, none⟩ (.int .i32 0)) := by
 go_enter_d Tryz.func166, Tryz.ntmps166
 go_wp2_with fail
 refine (unlock_in _ w hc hz).mono ?_
 rintro e w1 ⟨rfl, rfl⟩
 go_wp2_with fail
 go_end0
 exact ⟨rfl, rfl⟩
theorem store_deferred (a : Addr) (x : Value) (u : FrameMode) (w : World) (hc : w.cell? a = some x) (hz : w.frozen? a = false) :
  CallsD Tryz.prog 167 #[.pointer (some a), .bool true] u w fun e u' w' => u' = u ∧ (e = .returned (.tuple #[]) ∧ w' = w.drew.setCell a (.int .u32 1)) := by
 have hc' : w.drew.cell? a = some x := by go_simp
 have hz' : w.drew.frozen? a = false := by go_simp
 have hst := run_call_store (P := Tryz.prog) Tryz.func208 (by kernel_rfl) (by kernel_rfl) (by kernel_rfl) (by kernel_rfl) (k := .u32) (y := 1) hc' hz'
 go_enter_d Tryz.func167, Tryz.ntmps167
 go_wp2
 go_region_calls
 all_goals (go_end0; exact ⟨rfl, rfl⟩)
theorem load_bool (b off : Nat) (d : Int) (w : World) (h0 : w.cell? ⟨b, off, none⟩ = some (.int .u32 d)) :
  Calls Tryz.prog 131 #[.pointer (some ⟨b, off, none⟩)] w fun e w' => e = .returned (.bool (d != 0)) ∧ w' = w := by
 have hl := run_call_load (P := Tryz.prog) Tryz.func164 (by kernel_rfl) (by kernel_rfl) (by kernel_rfl) .u32 (by kernel_rfl) h0
 go_enter Tryz.func131, Tryz.ntmps131
 go_wp2
 go_ret
 exact ⟨rfl, rfl⟩
theorem slow_calls (b : Nat) (R : World → Prop) (w : World) (h0 : w.cell? ⟨b, 0, none⟩ = some (.int .u32 0)) (h1 : w.cell? ⟨b, 1, none⟩ = some (.int .i32 0)) (f1 : w.frozen? ⟨b, 1, none⟩ = false)
  (hf : Calls Tryz.prog 94 #[.pointer (some ⟨b, 0, none⟩)] (w.setCell ⟨b, 1, none⟩ (.int .i32 1)) fun e w' => e = .returned (.tuple #[]) ∧ R w' ∧ w'.cell? ⟨b, 0, none⟩ = some (.int .u32 0) ∧ w'.cell? ⟨b, 1, none⟩ = some (.int .i32 1) ∧ w'.frozen? ⟨b, 0, none⟩ = false ∧ w'.frozen? ⟨b, 1, none⟩ = false) :
  Calls Tryz.prog 132 #[.pointer (some ⟨b, 0, none⟩), .func (.func 94) #[.pointer (some ⟨b, 0, none⟩)] #[]] w fun e w' => e = .returned (.tuple #[]) ∧ ∃ w2, R w2 ∧ w' = (w2.drew.setCell ⟨b, 0, none⟩ (.int .u32 1)).setCell ⟨b, 1, none⟩ (.int .i32 0) := by
 have HF := hid hf
 clear hf
 have hl0 : (w.setCell ⟨b, 1, none⟩ (.int .i32 1)).cell? ⟨b, 0, none⟩ = some (.int .u32 0) := (World.cell?_setCell_other _ ⟨b, 1, none⟩ ⟨b, 0, none⟩ _ (by simp)).trans h0
 have hnot : ∀ (x : Bool) (w : World), (Op.unary .not (.bool x)).run Tryz.prog w = .ok (.bool (!x)) w := fun _ _ => rfl
 go_enter_defers Tryz.func132, Tryz.ntmps132
 go_wp2_with fail
 refine (lock_calls b 1 w h1 f1).mono ?_
 rintro e w1 ⟨rfl, rfl⟩
 generalize w.setCell ⟨b, 1, none⟩ (.int .i32 1) = w1 at *
 go_wp2_with fail
 refine (load_bool b 0 0 w1 hl0).mono ?_
 rintro e w2 ⟨rfl, rfl⟩
 go_wp2_with fail
 refine HF.out.mono ?_
 rintro e w2 ⟨rfl, hR, k0, k1, z0, z1⟩
 have HR := hid hR
 clear hR
 go_wp2_with fail
 refine leaves_cons (f := 167) (args := #[.pointer (some ⟨b, 0, none⟩), .bool true]) (by simp) (by simp [go_sem]) ?_
 refine (store_deferred ⟨b, 0, none⟩ (.int .u32 0) .returning _ k0 z0).mono ?_
 rintro e u' w'' ⟨rfl, rfl, rfl⟩
 refine leaves_cons (f := 166) (args := #[.pointer (some ⟨b, 1, none⟩)]) (by simp [settle]) (by simp [go_sem]) ?_
 refine (unlock_deferred b 1 _ _ ?_ ?_).mono ?_
 ·refine (World.cell?_setCell_other _ ⟨b, 0, none⟩ ⟨b, 1, none⟩ _ (by simp)).trans ?_
  rw [World.cell?_drew]
  exact k1
 ·rw [World.frozen?_setCell]
  exact z1
 rintro e u' w'' ⟨rfl, rfl, rfl⟩
 simp [Leaves, settle, results, Tryz.results132]
 exact ⟨w2, HR.out, rfl⟩
theorem do_first (b : Nat) (R : World → Prop) (w : World) (h0 : w.cell? ⟨b, 0, none⟩ = some (.int .u32 0)) (h1 : w.cell? ⟨b, 1, none⟩ = some (.int .i32 0)) (f1 : w.frozen? ⟨b, 1, none⟩ = false)
  (hf : Calls Tryz.prog 94 #[.pointer (some ⟨b, 0, none⟩)] (w.setCell ⟨b, 1, none⟩ (.int .i32 1)) fun e w' => e = .returned (.tuple #[]) ∧ R w' ∧ w'.cell? ⟨b, 0, none⟩ = some (.int .u32 0) ∧ w'.cell? ⟨b, 1, none⟩ = some (.int .i32 1) ∧ w'.frozen? ⟨b, 0, none⟩ = false ∧ w'.frozen? ⟨b, 1, none⟩ = false) :
  Calls Tryz.prog 93 #[.pointer (some ⟨b, 0, none⟩), .func (.func 94) #[.pointer (some ⟨b, 0, none⟩)] #[]] w fun e w' => e = .returned (.tuple #[]) ∧ ∃ w2, R w2 ∧ w' = (w2.drew.setCell ⟨b, 0, none⟩ (.int .u32 1)).setCell ⟨b, 1, none⟩ (.int .i32 0) := by
 have HF := hid hf
 clear hf
 have hnot : ∀ (x : Bool) (w : World), (Op.unary .not (.bool x)).run Tryz.prog w = .ok (.bool (!x)) w := fun _ _ => rfl
 go_enter Tryz.func93, Tryz.ntmps93
 go_wp2_with fail
 refine (load_bool b 0 0 w h0).mono ?_
 rintro e w2 ⟨rfl, rfl⟩
 go_wp2_with fail
 refine (slow_calls b R _ h0 h1 f1 HF.out).mono ?_
 rintro e w3 ⟨rfl, h⟩
 have H := hid h
 clear h
 go_wp2
 go_end0
 exact ⟨rfl, H.out⟩
theorem do_done (b : Nat) (fv : Value) (w : World) (h0 : w.cell? ⟨b, 0, none⟩ = some (.int .u32 1)) :
  Calls Tryz.prog 93 #[.pointer (some ⟨b, 0, none⟩), fv] w fun e w' => e = .returned (.tuple #[]) ∧ w' = w := by
 have hnot : ∀ (x : Bool) (w : World), (Op.unary .not (.bool x)).run Tryz.prog w = .ok (.bool (!x)) w := fun _ _ => rfl
 go_enter Tryz.func93, Tryz.ntmps93
 go_wp2_with fail
 refine (load_bool b 0 1 w h0).mono ?_
 rintro e w2 ⟨rfl, rfl⟩
 go_wp2
 go_end0
 exact ⟨rfl, rfl⟩
open Go.RowKit
def nodeR (val : List UInt8) (pri : Int) (pre : List UInt8) (nx : Option Addr) (tb : Value) : List Value := [.string ⟨val.toArray⟩, .int .i64 pri, .string ⟨pre.toArray⟩, .pointer nx, tb]
theorem Apart.over {S : Nat → Prop} {w w2 w3 : World} {b : Nat} (h : Apart S w w2) (h2 : Apart (fun k => k = b) w2 w3) (hb : w.heap.size ≤ b) : Apart S w w3 :=
 ⟨h2.os.trans h.os, h2.tape.trans h.tape, h2.output.trans h.output, Nat.le_trans h.size h2.size, fun k hk hn => (h2.block k (Nat.lt_of_lt_of_le hk h.size) (fun e => by omega)).trans (h.block k hk hn)⟩
theorem trie_end (g : Nat) (val : List UInt8) (pri : Int) (rv : Value) (w : World) (h : RowAt w g (nodeR [] 0 [] none (.slice none 0 0))) :
  Calls Tryz.prog 211 #[.pointer (some ⟨g, 0, none⟩), .string ⟨#[]⟩, .string ⟨val.toArray⟩, .int .i64 pri, rv] w fun e w' => e = .returned (.tuple #[]) ∧ RowAt w' g (nodeR val pri [] none (.slice none 0 0)) ∧ Apart (fun k => k = g) w w' ∧ w'.heap.size = w.heap.size := by
 have H := hid h
 have c0 : _ = some (Value.string ⟨#[]⟩) := h.cell 0 _ rfl
 have c1 : _ = some (Value.int .i64 0) := h.cell 1 _ rfl
 have f0 := h.free 0
 have f1 := h.free 1
 clear h
 go_enter Tryz.func211, Tryz.ntmps211
 go_wp2_with fail
 refine bodyPost_ret (results_none rfl _ _ _) rfl ?_
 exact ⟨rfl, (H.out.set 0 (.string ⟨val.toArray⟩) (by simp [nodeR])).set 1 (.int .i64 pri) (by simp [nodeR]), (Apart.set (S := fun k => k = g) w (a := ⟨g, 0, none⟩) rfl _).trans (Apart.set (S := fun k => k = g) _ (a := ⟨g, 1, none⟩) rfl _) (fun _ _ h => h), by simp⟩
theorem trie_leaf (g : Nat) (c : UInt8) (val : List UInt8) (pri : Int) (rv : Value) (w : World) (h : RowAt w g (nodeR [] 0 [] none (.slice none 0 0))) :
  Calls Tryz.prog 211 #[.pointer (some ⟨g, 0, none⟩), .string ⟨#[c]⟩, .string ⟨val.toArray⟩, .int .i64 pri, rv] w fun e w' => e = .returned (.tuple #[]) ∧ RowAt w' g (nodeR [] 0 [c] (some ⟨w.heap.size, 0, none⟩) (.slice none 0 0)) ∧ RowAt w' w.heap.size (nodeR val pri [] none (.slice none 0 0)) ∧ Apart (fun k => k = g) w w' ∧ w'.heap.size = w.heap.size + 1 := by
 have H := hid h
 have c2 : _ = some (Value.string ⟨#[]⟩) := h.cell 2 _ rfl
 have c4 : _ = some (Value.slice none 0 0) := h.cell 4 _ rfl
 have f2 := h.free 2
 clear h
 go_enter Tryz.func211, Tryz.ntmps211
 go_upto_region 33 with fail
 have HR1 : Hid (RowAt (w.setCell ⟨g, 2, none⟩ (.string ⟨#[c]⟩)) g (nodeR [] 0 [c] none (.slice none 0 0))) := hid (H.out.set 2 (.string ⟨#[c]⟩) (by simp [nodeR]))
 have HA1 : Hid (Apart (fun k => k = g) w (w.setCell ⟨g, 2, none⟩ (.string ⟨#[c]⟩))) := hid (Apart.set (S := fun k => k = g) w (a := ⟨g, 2, none⟩) rfl _)
 have HZ1 : Hid ((w.setCell ⟨g, 2, none⟩ (.string ⟨#[c]⟩)).heap.size = w.heap.size) := hid (by simp)
 generalize w.setCell ⟨g, 2, none⟩ (.string ⟨#[c]⟩) = w1 at *
 clear c2 c4 f2
 have hlt := HR1.out.lt
 have c3 : _ = some (Value.pointer none) := HR1.out.cell 3 _ rfl
 have f3 := HR1.out.free 3
 go_upto_region 34 with fail
 obtain ⟨b, hb⟩ : ∃ b, w1.heap.size = b := ⟨_, rfl⟩
 have hz : (w1.setCell ⟨g, 3, none⟩ (.pointer (some ⟨b, 0, none⟩))).heap.size = b := by simp [hb]
 have hr := (HR1.out.set 3 (.pointer (some ⟨b, 0, none⟩)) (by simp [nodeR])).alloc (.cells #[.string ⟨#[]⟩, .int .i64 0, .string ⟨#[]⟩, .pointer none, .slice none 0 0] 248)
 have hn := RowAt.new (w1.setCell ⟨g, 3, none⟩ (.pointer (some ⟨b, 0, none⟩))) #[.string ⟨#[]⟩, .int .i64 0, .string ⟨#[]⟩, .pointer none, .slice none 0 0] 248
 have ha : Apart (fun k => k = g) w1 ((w1.setCell ⟨g, 3, none⟩ (.pointer (some ⟨b, 0, none⟩))).alloc (.cells #[.string ⟨#[]⟩, .int .i64 0, .string ⟨#[]⟩, .pointer none, .slice none 0 0] 248)) := (Apart.set (S := fun k => k = g) w1 (a := ⟨g, 3, none⟩) rfl _).trans (Apart.ofBelow (S := fun k => k = g) ((Below.refl _ _).alloc (Nat.le_refl _) _)) (fun _ _ h => h)
 have hs2 : ((w1.setCell ⟨g, 3, none⟩ (.pointer (some ⟨b, 0, none⟩))).alloc (.cells #[.string ⟨#[]⟩, .int .i64 0, .string ⟨#[]⟩, .pointer none, .slice none 0 0] 248)).heap.size = b + 1 := by simp [hb]
 rw [hz] at hn
 rw [hb] at HZ1 hlt ⊢
 have HR2 := hid hr
 have HN2 := hid hn
 have HA2 := hid (HA1.out.trans ha (fun _ _ h => h))
 have HZ2 := hid hs2
 have HB := hid hb
 clear hb hz hr hn ha hs2 c3 f3 HR1 HA1
 generalize (w1.setCell ⟨g, 3, none⟩ (.pointer (some ⟨b, 0, none⟩))).alloc (.cells #[.string ⟨#[]⟩, .int .i64 0, .string ⟨#[]⟩, .pointer none, .slice none 0 0] 248) = w2 at *
 have c3 : _ = some (Value.pointer (some ⟨b, 0, none⟩)) := HR2.out.cell 3 _ rfl
 go_wp2_with fail
 refine (trie_end b val pri rv w2 HN2.out).mono ?_
 rintro e w3 ⟨rfl, hN3, hA3, hz3⟩
 have HN3 := hid hN3
 have HR3 := hid (HR2.out.apart hA3 (by omega))
 have HA3 := hid hA3
 have HZ3 := hid hz3
 clear hN3 hA3 hz3 c3
 go_wp2_with fail
 go_end0
 have hz1 := HZ1.out
 exact ⟨rfl, by rw [← hz1]; exact HR3.out, by rw [← hz1]; exact HN3.out, Apart.over HA2.out HA3.out (by omega), by rw [HZ3.out, HZ2.out]; omega⟩
open Go.RowKit
structure MapAt (w : World) (gr : Nat) : Prop where
 size : w.cell? ⟨gr, 5, none⟩ = some (.int .i64 3)
 zero : w.cell? ⟨gr, 54, none⟩ = some (.int .u8 0)
 one : w.cell? ⟨gr, 55, none⟩ = some (.int .u8 1)
 til : w.cell? ⟨gr, 132, none⟩ = some (.int .u8 2)
 lt : gr < w.heap.size
theorem MapAt.apart {S : Nat → Prop} {w w' : World} {gr : Nat} (h : MapAt w gr) (ha : Apart S w w') (hn : ¬ S gr) : MapAt w' gr :=
 ⟨(ha.cell (a := ⟨gr, 5, none⟩) h.lt hn).trans h.size, (ha.cell (a := ⟨gr, 54, none⟩) h.lt hn).trans h.zero, (ha.cell (a := ⟨gr, 55, none⟩) h.lt hn).trans h.one, (ha.cell (a := ⟨gr, 132, none⟩) h.lt hn).trans h.til, Nat.lt_of_lt_of_le h.lt ha.size⟩
theorem MapAt.below {w w' : World} {gr : Nat} (h : MapAt w gr) (hb : Below w.heap.size w w') : MapAt w' gr := h.apart (S := fun _ => False) (.ofBelow hb) (fun h => h)
theorem mk3 (W : World) : (Instr.makeSlice 246 (.int .i64 3) (.int .i64 3)).run Tryz.prog W = .ok (.slice (some ⟨W.heap.size, 0, none⟩) 3 3) (W.alloc (.cells #[.pointer none, .pointer none, .pointer none] 245)) := by kernel_rfl
theorem trie_split (g b gr : Nat) (val : List UInt8) (w : World) (h : RowAt w g (nodeR [] 0 [48] (some ⟨b, 0, none⟩) (.slice none 0 0))) (hm : MapAt w gr) (hne : g ≠ gr) :
  Calls Tryz.prog 211 #[.pointer (some ⟨g, 0, none⟩), .string ⟨#[49]⟩, .string ⟨val.toArray⟩, .int .i64 2, .pointer (some ⟨gr, 0, none⟩)] w fun e w' => e = .returned (.tuple #[]) ∧ ∃ gt gc, RowAt w' g (nodeR [] 0 [] none (.slice (some ⟨gt, 0, none⟩) 3 3)) ∧
   RowAt w' gt [.pointer (some ⟨b, 0, none⟩), .pointer (some ⟨gc, 0, none⟩), .pointer none] ∧ RowAt w' gc (nodeR val 2 [] none (.slice none 0 0)) ∧ Apart (fun k => k = g) w w' ∧ w.heap.size ≤ gt ∧ w.heap.size ≤ gc := by
 have H := hid h
 have HM := hid hm
 have HLT := hid h.lt
 have c2 : _ = some (Value.string ⟨#[48]⟩) := h.cell 2 _ rfl
 have c3 : _ = some (Value.pointer (some ⟨b, 0, none⟩)) := h.cell 3 _ rfl
 clear h hm
 have gx : ∀ h, (⟨#[48]⟩ : ByteArray)[0]'h = 48 := fun _ => rfl
 have gy : ∀ h, (⟨#[49]⟩ : ByteArray)[0]'h = 49 := fun _ => rfl
 have g48 : (48 : UInt8).toNat = 48 := rfl
 have g49 : (49 : UInt8).toNat = 49 := rfl
 have g4849 : ((48 : UInt8) == 49) = false := rfl
 go_enter Tryz.func211, Tryz.ntmps211
 go_wp2_with fail
 refine wp_loop_rounds 1 ?_
 rw [rounds_succ]
 go_wp2_with fail
 go_quiet (fail)
 have hbq : Apart (fun k => k = g) w (w.drewN nq) := Apart.ofBelow (below_drewN (Below.refl _ _) nq)
 have HA1 := hid hbq
 have HR1 := hid (H.out.apart (S := fun _ => False) (Apart.ofBelow (below_drewN (Below.refl _ _) nq)) (fun h => h))
 have HM1 := hid (HM.out.below (below_drewN (Below.refl _ _) nq))
 have HZ1 : Hid ((w.drewN nq).heap.size = w.heap.size) := hid (by simp)
 generalize w.drewN nq = w1 at *
 clear hbq H HM c2 c3
 have c2 : _ = some (Value.string ⟨#[48]⟩) := HR1.out.cell 2 _ rfl
 have c3 : _ = some (Value.pointer (some ⟨b, 0, none⟩)) := HR1.out.cell 3 _ rfl
 go_upto_region 16 with fail
 go_upto_region 17 with fail
 obtain ⟨gc, hgc⟩ : ∃ x, w1.heap.size = x := ⟨_, rfl⟩
 have hn := RowAt.new w1 #[.string ⟨#[]⟩, .int .i64 0, .string ⟨#[]⟩, .pointer none, .slice none 0 0] 248
 have hb2 : Below w1.heap.size w1 (w1.alloc (.cells #[.string ⟨#[]⟩, .int .i64 0, .string ⟨#[]⟩, .pointer none, .slice none 0 0] 248)) := (Below.refl _ _).alloc (Nat.le_refl _) _
 rw [hgc] at hn ⊢
 have HN2 := hid hn
 have HR2 := hid (HR1.out.below hb2)
 have HM2 := hid (HM1.out.below hb2)
 have HA2 := hid (HA1.out.trans (Apart.ofBelow (S := fun k => k = g) hb2) (fun _ _ h => h))
 have HZ2 : Hid ((w1.alloc (.cells #[.string ⟨#[]⟩, .int .i64 0, .string ⟨#[]⟩, .pointer none, .slice none 0 0] 248)).heap.size = gc + 1) := hid (by simp [hgc])
 have HGC : Hid (w.heap.size = gc) := hid (by rw [← hgc]; exact HZ1.out.symm)
 clear hn hb2 hgc HR1 HM1 HA1 HZ1 c2 c3
 generalize (w1.alloc (.cells #[.string ⟨#[]⟩, .int .i64 0, .string ⟨#[]⟩, .pointer none, .slice none 0 0] 248)) = w2 at *
 have m5 := HM2.out.size
 have c4 : _ = some (Value.slice none 0 0) := HR2.out.cell 4 _ rfl
 have f4 := HR2.out.free 4
 have hmk := mk3
 have hl2 := HR2.out.lt
 go_upto_region 18 with fail
 obtain ⟨gt, hgt⟩ : ∃ x, w2.heap.size = x := ⟨_, rfl⟩
 have hz : (w2.setCell ⟨g, 4, none⟩ (.slice (some ⟨gt, 0, none⟩) 3 3)).heap.size = gt := by simp [hgt]
 have hr := (HR2.out.set 4 (.slice (some ⟨gt, 0, none⟩) 3 3) (by simp [nodeR])).alloc (.cells #[.pointer none, .pointer none, .pointer none] 245)
 have hn := RowAt.new (w2.setCell ⟨g, 4, none⟩ (.slice (some ⟨gt, 0, none⟩) 3 3)) #[.pointer none, .pointer none, .pointer none] 245
 have ha : Apart (fun k => k = g) w2 ((w2.setCell ⟨g, 4, none⟩ (.slice (some ⟨gt, 0, none⟩) 3 3)).alloc (.cells #[.pointer none, .pointer none, .pointer none] 245)) := (Apart.set (S := fun k => k = g) w2 (a := ⟨g, 4, none⟩) rfl _).trans (Apart.ofBelow (S := fun k => k = g) ((Below.refl _ _).alloc (Nat.le_refl _) _)) (fun _ _ h => h)
 rw [hz] at hn
 rw [hgt] at hl2 ⊢
 have hge := HGC.out
 have hgz := HZ2.out
 have hgl : g < gc := by have := HLT.out; omega
 have HR3 := hid hr
 have HT3 := hid hn
 have HN3 := hid (HN2.out.apart ha (by omega))
 have HM3 := hid (HM2.out.apart ha (fun e => hne e.symm))
 have HA3 := hid (HA2.out.trans ha (fun _ _ h => h))
 have HGT : Hid (g < gc ∧ gt = gc + 1 ∧ gr ≠ gt ∧ w.heap.size = gc) := hid ⟨hgl, by omega, by have := HM2.out.lt; omega, hge⟩
 clear hz hr hn ha hgt hge hgz hgl HR2 HN2 HM2 HA2 m5 c4 f4 hl2
 generalize ((w2.setCell ⟨g, 4, none⟩ (.slice (some ⟨gt, 0, none⟩) 3 3)).alloc (.cells #[.pointer none, .pointer none, .pointer none] 245)) = w3 at *
 have hg9 := HGT.out
 have mkS : ∀ wq, Apart (fun k => k = gt) w3 wq → (fun wq => wq.cell? ⟨g, 4, none⟩ = some (Value.slice (some ⟨gt, 0, none⟩) 3 3) ∧ wq.cell? ⟨gr, 54, none⟩ = some (Value.int .u8 0) ∧ wq.cell? ⟨g, 2, none⟩ = some (Value.string ⟨#[48]⟩)) wq := fun wq ha => ⟨(ha.cell (a := ⟨g, 4, none⟩) HR3.out.lt (by show ¬ g = gt; omega)).trans (HR3.out.cell 4 _ rfl), (ha.cell (a := ⟨gr, 54, none⟩) HM3.out.lt (by show ¬ gr = gt; omega)).trans HM3.out.zero, (ha.cell (a := ⟨g, 2, none⟩) HR3.out.lt (by show ¬ g = gt; omega)).trans (HR3.out.cell 2 _ rfl)⟩
 have HMK := hid mkS
 have hS0 := mkS w3.drew (Apart.ofBelow (S := fun k => k = gt) (Below.refl _ _).drew)
 have HTD := hid (HT3.out.below (Below.refl _ _).drew)
 have HAD : Hid (Apart (fun k => k = gt) w3 w3.drew) := hid (Apart.ofBelow (S := fun k => k = gt) (Below.refl _ _).drew)
 have HZD : Hid (w3.drew.heap.size = w3.heap.size) := hid rfl
 clear mkS hg9
 refine wp_region_held_drew (S := (fun wq => wq.cell? ⟨g, 4, none⟩ = some (Value.slice (some ⟨gt, 0, none⟩) 3 3) ∧ wq.cell? ⟨gr, 54, none⟩ = some (Value.int .u8 0) ∧ wq.cell? ⟨g, 2, none⟩ = some (Value.string ⟨#[48]⟩))) (by kernel_rfl) hS0 (fun hHeld0 => ?_)
 generalize w3.drew = wd at *
 have k0 : _ = some (Value.pointer none) := HTD.out.cell 0 _ rfl
 have fz0 := HTD.out.free 0
 refine held_ta 0 hHeld0 ?_
 refine held_ta 1 hHeld0 ?_
 refine held_ta 2 hHeld0 ?_
 refine held_ta 3 hHeld0 ?_
 refine held_ta 4 hHeld0 ?_
 refine held_ta 5 hHeld0 ?_
 refine held_ta 6 hHeld0 ?_
 refine held_ta 7 hHeld0 ?_
 refine held_ta 8 hHeld0 ?_
 refine held_ta 9 hHeld0 ?_
 refine held_ta 10 hHeld0 ?_
 refine held_ta 11 hHeld0 ?_
 refine held_ta 12 hHeld0 ?_
 refine held_ta 13 hHeld0 ?_
 refine held_ta 14 hHeld0 ?_
 refine held_ta 15 hHeld0 ?_
 refine held_st 16 rfl (fun K hK => ?_)
 go_simp
 clear k0 fz0
 refine hK.out _ _ (HMK.out _ (HAD.out.trans (Apart.set (S := fun k => k = gt) _ rfl _) (fun _ _ h => h))) (fun hHeld1 => ?_)
 clear hK K hHeld0
 refine wpAnyH_done (by kernel_rfl) ?_ _
 clear hHeld1
 have ha : Apart (fun k => k = gt) w3 (wd.setCell ⟨gt, 0, none⟩ (.pointer (some ⟨b, 0, none⟩))) := HAD.out.trans (Apart.set (S := fun k => k = gt) _ (a := ⟨gt, 0, none⟩) rfl _) (fun _ _ h => h)
 have hg9 := HGT.out
 have HR4 := hid (HR3.out.apart ha (by omega))
 have HN4 := hid (HN3.out.apart ha (by omega))
 have HM4 := hid (HM3.out.apart ha (by omega))
 have HT4 := hid (HTD.out.set 0 (.pointer (some ⟨b, 0, none⟩)) (by simp))
 have HA4 := hid (HA3.out.over ha (by omega))
 clear ha hg9 HR3 HN3 HM3 HT3 HA3 HTD HAD HZD HMK hS0
 generalize (wd.setCell ⟨gt, 0, none⟩ (.pointer (some ⟨b, 0, none⟩))) = w4 at *
 go_upto_region 19 with fail
 have hg9 := HGT.out
 have mkS : ∀ wq, Apart (fun k => k = gt) w4 wq → (fun wq => wq.cell? ⟨g, 4, none⟩ = some (Value.slice (some ⟨gt, 0, none⟩) 3 3) ∧ wq.cell? ⟨gr, 55, none⟩ = some (Value.int .u8 1)) wq := fun wq ha => ⟨(ha.cell (a := ⟨g, 4, none⟩) HR4.out.lt (by show ¬ g = gt; omega)).trans (HR4.out.cell 4 _ rfl), (ha.cell (a := ⟨gr, 55, none⟩) HM4.out.lt (by show ¬ gr = gt; omega)).trans HM4.out.one⟩
 have HMK := hid mkS
 have hS0 := mkS w4.drew (Apart.ofBelow (S := fun k => k = gt) (Below.refl _ _).drew)
 have HTD := hid (HT4.out.below (Below.refl _ _).drew)
 have HAD : Hid (Apart (fun k => k = gt) w4 w4.drew) := hid (Apart.ofBelow (S := fun k => k = gt) (Below.refl _ _).drew)
 have HZD : Hid (w4.drew.heap.size = w4.heap.size) := hid rfl
 clear mkS hg9
 refine wp_region_held_drew (S := (fun wq => wq.cell? ⟨g, 4, none⟩ = some (Value.slice (some ⟨gt, 0, none⟩) 3 3) ∧ wq.cell? ⟨gr, 55, none⟩ = some (Value.int .u8 1))) (by kernel_rfl) hS0 (fun hHeld0 => ?_)
 generalize w4.drew = wd at *
 have k0 : _ = some (Value.pointer none) := HTD.out.cell 1 _ rfl
 have fz0 := HTD.out.free 1
 refine held_ta 0 hHeld0 ?_
 refine held_ta 1 hHeld0 ?_
 refine held_ta 2 hHeld0 ?_
 refine held_ta 3 hHeld0 ?_
 refine held_ta 4 hHeld0 ?_
 refine held_ta 5 hHeld0 ?_
 refine held_ta 6 hHeld0 ?_
 refine held_ta 7 hHeld0 ?_
 refine held_ta 8 hHeld0 ?_
 refine held_ta 9 hHeld0 ?_
 refine held_ta 10 hHeld0 ?_
 refine held_ta 11 hHeld0 ?_
 refine held_ta 12 hHeld0 ?_
 refine held_st 13 rfl (fun K hK => ?_)
 go_simp
 clear k0 fz0
 refine hK.out _ _ (HMK.out _ (HAD.out.trans (Apart.set (S := fun k => k = gt) _ rfl _) (fun _ _ h => h))) (fun hHeld1 => ?_)
 clear hK K hHeld0
 refine wpAnyH_done (by kernel_rfl) ?_ _
 clear hHeld1
 have ha : Apart (fun k => k = gt) w4 (wd.setCell ⟨gt, 1, none⟩ (.pointer (some ⟨gc, 0, none⟩))) := HAD.out.trans (Apart.set (S := fun k => k = gt) _ (a := ⟨gt, 1, none⟩) rfl _) (fun _ _ h => h)
 have hg9 := HGT.out
 have HR5 := hid (HR4.out.apart ha (by omega))
 have HN5 := hid (HN4.out.apart ha (by omega))
 have HT5 := hid (HTD.out.set 1 (.pointer (some ⟨gc, 0, none⟩)) (by simp))
 have HA5 := hid (HA4.out.over ha (by omega))
 clear ha hg9 HR4 HN4 HM4 HT4 HA4 HTD HAD HZD HMK hS0
 generalize (wd.setCell ⟨gt, 1, none⟩ (.pointer (some ⟨gc, 0, none⟩))) = w5 at *
 have f2 := HR5.out.free 2
 have f3 := HR5.out.free 3
 have k2 : _ = some (Value.string ⟨#[48]⟩) := HR5.out.cell 2 _ rfl
 have k3 : _ = some (Value.pointer (some ⟨b, 0, none⟩)) := HR5.out.cell 3 _ rfl
 have hex : (⟨#[49]⟩ : ByteArray).extract 1 1 = ⟨#[]⟩ := rfl
 go_wp2_with fail
 have ha : Apart (fun k => k = g) w5 ((w5.setCell ⟨g, 2, none⟩ (.string ⟨#[]⟩)).setCell ⟨g, 3, none⟩ (.pointer none)) := (Apart.set (S := fun k => k = g) w5 (a := ⟨g, 2, none⟩) rfl _).trans (Apart.set (S := fun k => k = g) _ (a := ⟨g, 3, none⟩) rfl _) (fun _ _ h => h)
 have hg9 := HGT.out
 have HR6 := hid ((HR5.out.set 2 (.string ⟨#[]⟩) (by simp [nodeR])).set 3 (.pointer none) (by simp [nodeR]))
 have HN6 := hid (HN5.out.apart ha (by omega))
 have HT6 := hid (HT5.out.apart ha (by omega))
 have HA6 := hid (HA5.out.trans ha (fun _ _ h => h))
 clear ha hg9 HR5 HN5 HT5 HA5 f2 f3 k2 k3
 generalize ((w5.setCell ⟨g, 2, none⟩ (.string ⟨#[]⟩)).setCell ⟨g, 3, none⟩ (.pointer none)) = w6 at *
 refine (trie_end gc val 2 _ w6 HN6.out).mono ?_
 rintro e w7 ⟨rfl, hN7, hA7, hz7⟩
 have hg9 := HGT.out
 have HN7 := hid hN7
 have HR7 := hid (HR6.out.apart hA7 (by omega))
 have HT7 := hid (HT6.out.apart hA7 (by omega))
 have HA7 := hid (HA6.out.over hA7 (by omega))
 clear hN7 hA7 hz7 hg9
 go_wp2_with fail
 go_end0
 have hg9 := HGT.out
 exact ⟨rfl, gt, gc, HR7.out, HT7.out, HN7.out, HA7.out, by omega, by omega⟩
end Go.Proofs.YtfclfaidmipjpaaGreatDoor
