/- Rows of texts; the walks of the reference's lines and values. -/
import Derived.Test.YtgdfgppgfkkncaaGreatDoorHtS
import Derived.Test.YtgdfgppgfkkncaaGreatDoorHrM
namespace Go.Proofs.YtgdfgppgfkkncaaGreatDoor
open Go.RowKit

/-- v is a row of texts of the call's own, from block B on. -/
def StrV (w : World) (B : Nat) (v : Value) (ps : List (List UInt8)) : Prop := w.ownsRow B 9 1 v ps.length (strs ps)
theorem strInfo : (Tryz.prog.info? 9).map (fun i => (i.zero, i.size, i.bytes)) = some (some (.string .empty), 1, 16) := by kernel_rfl
theorem strs_app (a b : List (List UInt8)) : strs (a ++ b) = strs a ++ strs b := by simp [strs]
theorem strs_len (a : List (List UInt8)) : (strs a).length = a.length := by simp [strs]
theorem StrV.nil (w : World) (B : Nat) : StrV w B (.slice none 0 0) [] := World.ownsRow_nil w B _ _
theorem StrV.forms {w : World} {B : Nat} {v : Value} {ps : List (List UInt8)} (h : StrV w B v ps) : ∃ p cap, v = .slice p ps.length cap ∧ (0 < ps.length → ∃ g, p = some ⟨g, 0, none⟩ ∧ ∀ j, j < ps.length → w.cell? ⟨g, j, none⟩ = some (.string ⟨(ps.getD j []).toArray⟩)) := by
  rcases h.2 with ⟨rfl, h2⟩ | ⟨g, cap, cur, rfl, h1, hgg, h3, h4, h5, h6⟩
  · exact ⟨none, 0, by rw [h2], fun h => by omega⟩
  · refine ⟨_, cap, rfl, fun _ => ⟨g, rfl, fun j hj => ?_⟩⟩
    rw [World.ownsRow.cellAt h j (by omega)]
    simp [strs, List.getD, hj]
theorem StrV.below {w w' : World} {B : Nat} {v : Value} {ps : List (List UInt8)} (h : StrV w B v ps) (hb : Below w.heap.size w w') : StrV w' B v ps := ownsRow_apart (S := fun _ => False) h (.ofBelow hb) (fun _ _ h => h)
/-- 'append(l, s)'. -/
theorem wpList_append_str {w : World} {ops : Array Oper} {rest : List Oper} {o : Oper} {a : Act} {Q : Exit → Act → World → Prop} (hgd : o.guard = none) (s x : Operand)
    (ho : o.op = .call { callee := .builtin .append, args := #[s, x], argTypes := #[79, 79] })
    (B : Nat) (v : Value) (ps : List (List UInt8)) (hv : a.eval s = v) (hown : StrV w B v ps) (p : List UInt8)
    (G : Nat) (hx : a.eval x = .slice (some ⟨G, 0, none⟩) 1 1) (hG : G = w.heap.size) (hlen : ps.length ≤ 1000000000) (hbase : B ≤ w.heap.size)
    (hK : ∀ v' w', StrV w' B v' (ps ++ [p]) → (w.alloc (.cells #[.string ⟨p.toArray⟩] 9)).grownBy w' v.ownBlock → wpList Tryz.prog ops Q rest (a.put o.dst v') w') :
    wpList Tryz.prog ops Q (o :: rest) a (w.alloc (.cells #[.string ⟨p.toArray⟩] 9)) := by
  subst hG
  obtain ⟨i0, hi, hz0, hz1, hz2⟩ := info_parts strInfo
  refine wpList_append_own _ hgd s x 79 ho B 9 i0 _ 1 16 Tryz.underlying79 hi hz0 hz1 hz2 rfl (by decide) v ps.length (strs ps) hv (World.ownsRow.alloc hown _) ⟨w.heap.size, 0, none⟩ 1 1 (strs [p]) hx rfl ?_ ?_ ?_ ?_ (by simp; omega) ?_
  · intro j u hj
    have hj2 : j = 0 := by
      have := (List.getElem?_eq_some_iff.1 hj).1
      simp [strs] at this; omega
    subst hj2
    rw [addr_off rfl, World.cell?_alloc_at _ _ _ _ rfl]; exact hj
  · intro u hu
    simp [strs] at hu
    rw [hu]; rfl
  · unfold maxLen; omega
  · omega
  · intro v' w' h1 h2 _
    refine hK v' w' ?_ h2
    unfold StrV
    rw [strs_app, List.length_append]
    exact h1
def STR (p : List UInt8) : Obj := Obj.cells #[Value.string { data := p.toArray }] 9
set_option maxRecDepth 100000 in
set_option maxHeartbeats 4000000 in
theorem valuesR_calls (w : World) (v : Value) (hs : List Hdr) (n : List UInt8) (h : HdrS w v hs) (hl : hs.length ≤ 100000000) : Calls Tryz.prog 50 #[v, .string ⟨n.toArray⟩] w fun e w' => (∃ u, e = .returned u ∧ StrV w' w.heap.size u (valuesS hs n)) ∧ Below w.heap.size w w' := by
  obtain ⟨q, cap, rfl, hcap, _, hq⟩ := h.form
  have Hq := Lib.hid hq
  have HH := Lib.hid h
  clear h hq
  go_enter Tryz.func50, Tryz.ntmps50
  go_wp2_with fail
  go_loopg [5, 6] hs.length (fun k u i wr => ∃ j : Nat, k = hs.length - j ∧ j ≤ hs.length ∧ i = .int .i64 j ∧ StrV wr w.heap.size u (valuesS (hs.take j) n) ∧ Below w.heap.size w wr)
  case atStart => exact ⟨0, rfl, by omega, rfl, by rw [List.take_zero]; exact StrV.nil _ _, Below.refl _ _⟩
  case round =>
    obtain ⟨j, hk, hj, rfl, hv, hb⟩ := hrel
    have Hk := Lib.hid hk
    have HV := Lib.hid hv
    have HB := Lib.hid hb
    clear hk hv hb
    by_cases hlt : j < hs.length
    · have hlt' : (j : Int) < hs.length := by omega
      obtain ⟨g, off, rfl⟩ := Hq.out (by omega)
      obtain ⟨c0, c1⟩ := (HH.out.below HB.out).at j hlt
      have HT := Lib.hid (valuesS_take hs n j hlt)
      have HL : Hid ((valuesS (hs.take j) n).length ≤ 100000000) := by
        show (valuesS (hs.take j) n).length ≤ _
        have : (valuesS (hs.take j) n).length ≤ (hs.take j).length := by unfold valuesS; rw [List.length_map]; exact List.length_filter_le _ _
        rw [List.length_take] at this; omega
      generalize (hs.getD j ⟨[], []⟩).name = nm at *
      generalize (hs.getD j ⟨[], []⟩).value = vl at *
      by_cases hn : nm = n
      · have hn2 : (nm == n) = true := by rw [hn]; simp
        rw [hn, if_pos rfl] at HT
        clear hn
        obtain ⟨p, c, rfl, -⟩ := HV.out.forms
        go_wp2_with (at_builtin; go_must (refine wpList_append_str rfl _ _ rfl w.heap.size _ _ rfl HV.out vl _ rfl rfl ?hlen HB.out.size ?_))
        case hlen => have := HL.out; omega
        intro v' w' hv' hg
        have hb1 : Below w.heap.size w w' := (HB.out.alloc HB.out.size _).grown hg (by have := HB.out.size; simp; omega) (fun k hk => (World.ownsRow.lt HV.out k hk).1)
        have HV2 := Lib.hid hv'
        have HB2 := Lib.hid hb1
        clear hv' hg hb1
        go_wp2_with fail
        go_roundg (hs.length - (j + 1))
        case measure => have := Hk.out; omega
        case rel => exact ⟨j + 1, rfl, by omega, by go_num, by rw [HT.out]; exact HV2.out, HB2.out⟩
      · have hn2 : (nm == n) = false := by rw [beq_eq_false_iff_ne]; exact hn
        rw [if_neg hn, List.append_nil] at HT
        clear hn
        go_wp2_with fail
        go_roundg (hs.length - (j + 1))
        case measure => have := Hk.out; omega
        case rel => exact ⟨j + 1, rfl, by omega, by go_num, by rw [HT.out]; exact HV.out, HB.out⟩
    · obtain rfl : j = hs.length := by omega
      have hv := HV.out
      rw [List.take_of_length_le (Nat.le_refl _)] at hv
      have HF := Lib.hid hv
      clear hv
      go_wp2_with fail
      go_ret
      exact ⟨⟨_, rfl, HF.out⟩, HB.out⟩
end Go.Proofs.YtgdfgppgfkkncaaGreatDoor
