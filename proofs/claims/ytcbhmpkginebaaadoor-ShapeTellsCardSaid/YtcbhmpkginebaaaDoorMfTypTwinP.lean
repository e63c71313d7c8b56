/-
  The program's Twin of types.
-/
import Derived.Test.YtcbhmpkginebaaaDoorMg14
import Derived.Test.YtcbhmpkginebaaaDoorMfTypClone
namespace Go.Proofs.YtcbhmpkginebaaaDoor
set_option linter.unusedVariables false
set_option linter.unusedSimpArgs false
open Go.ChangeShapes Go.WideShapes Go.ChangeAt Go.RowKit

def TyR.laid (r : TyR) (A : Option Addr) (c : Nat) : TyR := ⟨r.kind, r.elem, r.many, A, c, r.parts⟩
theorem flat_poke (A : Option Addr) (c : Nat) : ∀ (rows : List TyR) (k : Nat), k < rows.length → (rows.flatMap TyR.cells4).set (k * 4 + 3) (.slice A (rows.getD k default).parts.length c) = (rows.set k ((rows.getD k default).laid A c)).flatMap TyR.cells4
  | r :: rs, 0, _ => rfl
  | r :: rs, k + 1, h => by
    have ih := flat_poke A c rs k (by simpa using h)
    rw [show (k + 1) * 4 + 3 = k * 4 + 3 + 1 + 1 + 1 + 1 by omega]
    show _ :: _ :: _ :: _ :: ((rs.flatMap TyR.cells4).set (k * 4 + 3) (.slice A (rs.getD k default).parts.length c)) = _
    rw [ih]
    rfl
theorem tbl_laid (rows : List TyR) (k : Nat) (A : Option Addr) (c : Nat) (h : k < rows.length) : tbl (rows.set k ((rows.getD k default).laid A c)) = tbl rows := by
  unfold tbl
  rw [List.map_set]
  apply List.ext_getElem?
  intro j
  rw [List.getElem?_set]
  split
  · rename_i e
    subst e
    rw [List.length_map, if_pos h, List.getElem?_map, List.getElem?_eq_getElem h, getD_lt rows h]
    rfl
  · rfl
theorem getD_set_ne {α : Type} {d : α} (l : List α) {i j : Nat} (x : α) (h : i ≠ j) : (l.set i x).getD j d = l.getD j d := by
  rw [List.getD_eq_getElem?_getD, List.getElem?_set_ne h, ← List.getD_eq_getElem?_getD]
theorem getD_set_eq {α : Type} {d : α} (l : List α) {i : Nat} (x : α) (h : i < l.length) : (l.set i x).getD i d = x := by
  rw [List.getD_eq_getElem?_getD, List.getElem?_set_self h]; rfl
/-- A table half way: the first k rows have lists of their own, the others those of the source. -/
structure Half (w0 w : World) (g c : Nat) (src cur : List TyR) (k : Nat) : Prop where
  len : cur.length = src.length
  row : w.ownsRow w0.heap.size 78 4 (.slice (some ⟨g, 0, none⟩) src.length c) src.length (cur.flatMap TyR.cells4)
  done : ∀ j, j < k → OwnInts w w0.heap.size (.slice (cur.getD j default).pa (cur.getD j default).parts.length (cur.getD j default).pc) (cur.getD j default).parts ∧ (cur.getD j default).kind ≤ 255
  left : ∀ j, k ≤ j → cur.getD j default = src.getD j default
  told : tbl cur = tbl src
theorem Half.keep {w0 w w' : World} {g c : Nat} {src cur : List TyR} {k : Nat} (h : Half w0 w g c src cur k) (hb : Below w.heap.size w w') : Half w0 w' g c src cur k :=
  ⟨h.len, ownsRow_keep h.row hb, fun j hj => ⟨(h.done j hj).1.keep hb, (h.done j hj).2⟩, h.left, h.told⟩
theorem Half.step {w0 w : World} {g c : Nat} {src cur : List TyR} {k : Nat} (h : Half w0 w g c src cur k) (hk : k < src.length) {A : Option Addr} {c' : Nat}
    (ho : OwnInts w w0.heap.size (.slice A (src.getD k default).parts.length c') (src.getD k default).parts) (hkd : (src.getD k default).kind ≤ 255) :
    Half w0 (w.setCell ⟨g, k * 4 + 3, none⟩ (.slice A (src.getD k default).parts.length c')) g c src (cur.set k ((src.getD k default).laid A c')) (k + 1) := by
  have hl := h.left k (Nat.le_refl _)
  have hkc : k < cur.length := by rw [h.len]; exact hk
  obtain ⟨h1, h2⟩ := h.row.stored (k * 4 + 3) (.slice A (src.getD k default).parts.length c')
  rw [← hl] at h1
  rw [flat_poke A c' cur k hkc, hl] at h1
  refine ⟨by rw [List.length_set, h.len], h1, fun j hj => ?_, fun j hj => ?_, ?_⟩
  · by_cases hjk : j = k
    · subst hjk
      rw [getD_set_eq _ _ hkc]
      exact ⟨World.ownsRow.kept ho h2 (rows_ne ho h.row (by decide)), hkd⟩
    · rw [getD_set_ne _ _ (Ne.symm hjk)]
      obtain ⟨h3, h4⟩ := h.done j (by omega)
      exact ⟨World.ownsRow.kept h3 h2 (rows_ne h3 h.row (by decide)), h4⟩
  · rw [getD_set_ne _ _ (by omega)]
    exact h.left j (by omega)
  · rw [← hl, tbl_laid cur k A c' hkc]
    exact h.told
theorem Half.at_ {w0 w : World} {g c : Nat} {src cur : List TyR} {k : Nat} (h : Half w0 w g c src cur k) (hk : k < src.length) {j : Nat} (hj : j < 4) : w.cell? ⟨g, k * 4 + j, none⟩ = some ((src.getD k default).cells4.getD j undef) := by
  have hkc : k < cur.length := by rw [h.len]; exact hk
  rw [h.row.cellAt (k * 4 + j) (by omega)]
  have hf := flat_getD TyR.cells4 4 (fun _ => rfl) default cur k j hkc hj
  rw [h.left k (Nat.le_refl _), List.getD_eq_getElem?_getD] at hf
  have hlt : k * 4 + j < (cur.flatMap TyR.cells4).length := by rw [flat_len]; omega
  rw [List.getElem?_eq_getElem hlt] at hf ⊢
  exact congrArg some hf
theorem Half.all {w0 w : World} {g c : Nat} {src cur : List TyR} {k : Nat} (h : Half w0 w g c src cur k) (hk : src.length ≤ k) : OwnTys w w0.heap.size (.slice (some ⟨g, 0, none⟩) src.length c) cur := by
  refine ⟨by rw [h.len]; exact h.row, fun r hr => ?_⟩
  obtain ⟨i, hi, rfl⟩ := List.getElem_of_mem hr
  have := h.done i (by have := h.len; omega)
  rwa [getD_lt cur hi] at this
set_option maxHeartbeats 800000 in
theorem ptwin_any {w : World} {A : Option Addr} {c : Nat} {rows : List TyR} (h : TabFew w A c rows) (hlen : rows.length ≤ 1000) : Calls Tryd.prog 52 #[.slice A rows.length c] w (SomeTwin (tbl rows) w) := by
  have HX := Lib.hid h
  have HC := Lib.hid (cloneTys_any h.tab.hdr h.tab.rows (Nat.le_refl _) hlen)
  clear h
  go_enter Tryd.func52, Tryd.ntmps52
  go_wp2_with fail
  refine HC.out.mono ?_
  rintro e w1 ⟨v, rfl, hrow, hb1⟩
  have HB1 := Lib.hid hb1
  clear hb1 HC
  rcases hrow.2 with ⟨rfl, hn⟩ | ⟨g, cap, cs, rfl, hg, _⟩
  · have HN := Lib.hid hn
    have hnil : rows = [] := List.eq_nil_of_length_eq_zero hn
    subst hnil
    clear hrow hn
    go_wp2_with fail
    go_loopw [10] (fun i wr => i = .int .i64 0 ∧ wr = w1) (fun _ _ => 0)
    case atStart => exact ⟨rfl, rfl⟩
    case round =>
      obtain ⟨rfl, rfl⟩ := hrel
      go_wp2_with fail
      go_ret
      exact ⟨_, [], rfl, OwnTys.nil _ _, rfl, HB1.out⟩
  · have HH : Hid (Half w w1 g cap rows rows 0) := Lib.hid ⟨rfl, hrow, fun j hj => by omega, fun _ _ => rfl, rfl⟩
    have HG := Lib.hid hg
    clear hrow hg
    go_wp2_with fail
    go_loopw [10] (fun i wr => ∃ (k : Nat) (cur : List TyR), k ≤ rows.length ∧ i = .int .i64 k ∧ Half w wr g cap rows cur k ∧ Below w.heap.size w wr) (fun i _ => rows.length - (intOf i).toNat)
    case atStart => exact ⟨0, rows, Nat.zero_le _, rfl, HH.out, HB1.out⟩
    case round =>
      obtain ⟨k, cur, hk, rfl, hhalf, hbel⟩ := hrel
      have HB := Lib.hid hbel
      have HF := Lib.hid hhalf
      clear hbel hhalf HH
      by_cases hlt : k < rows.length
      · have d0 := HF.out.at_ hlt (j := 0) (by omega)
        have d1 := HF.out.at_ hlt (j := 1) (by omega)
        have d2 := HF.out.at_ hlt (j := 2) (by omega)
        have d3 := HF.out.at_ hlt (j := 3) (by omega)
        have hr := ((HX.out.tab.rows.ok _ (mem_getD (d := default) hlt)).keep HB.out).more (Nat.le_refl _) HB.out.size
        have hpl := HX.out.few _ (mem_getD (d := default) hlt)
        have HS : Hid (∀ w' : World, Below wr.heap.size wr w' → ∀ (A' : Option Addr) (c' : Nat), OwnInts w' w.heap.size (.slice A' (rows.getD k default).parts.length c') (rows.getD k default).parts →
            w'.cell? ⟨g, k * 4 + 3, none⟩ = some ((rows.getD k default).cells4.getD 3 undef) ∧ w'.frozen? ⟨g, k * 4 + 3, none⟩ = false ∧ ∃ cur', Half w (w'.setCell ⟨g, k * 4 + 3, none⟩ (.slice A' (rows.getD k default).parts.length c')) g cap rows cur' (k + 1)) :=
          Lib.hid fun w' hb' A' c' ho => ⟨(HF.out.keep hb').at_ hlt (by omega), (HF.out.keep hb').row.frozenAt _, _, (HF.out.keep hb').step hlt ho hr.kind⟩
        generalize rows.getD k default = r at d0 d1 d2 d3 hr hpl HS
        obtain ⟨κ, el, ma, pa, pc, ps⟩ := r
        simp only [TyR.cells4, Nat.add_zero, List.getD_cons_zero, List.getD_cons_succ] at d0 d1 d2 d3
        simp only at hpl
        have hb0 : Below wr.heap.size wr (wr.alloc (.cells #[.int .u8 κ, .int .i64 el, .int .i64 ma, .slice pa ps.length pc] 78)) := (Below.refl _ _).alloc (Nat.le_refl _) _
        have HCL := Lib.hid (cloneInts_any hr.hdr (hr.keep hb0).ints hb0.size hpl)
        have HA := Lib.hid hb0
        clear hr hb0
        go_wp2_with fail
        refine HCL.out.mono ?_
        rintro e w3 ⟨v3, rfl, hown3, hb3⟩
        have hb4 := HA.out.trans (hb3.mono HA.out.size)
        obtain ⟨A3, c3, rfl, _, _, _, _⟩ := hown3.form
        obtain ⟨s1, s2, cur', s3⟩ := HS.out w3 hb4 A3 c3 (hown3.more (Nat.le_trans HB.out.size HA.out.size))
        have HS3 := Lib.hid s3
        have HB5 := Lib.hid ((HB.out.trans (hb4.mono HB.out.size)).setCell (p := ⟨g, k * 4 + 3, none⟩) HG.out (.slice A3 ps.length c3))
        clear s3 hown3 hb3 hb4
        go_wp2_with fail
        go_roundw
        case rel => exact ⟨k + 1, cur', by omega, by go_num, HS3.out, HB5.out⟩
        case measure => simp [intOf]; omega
      · go_wp2_with fail
        go_ret
        exact ⟨_, cur, rfl, HF.out.all (by omega), HF.out.told, HB.out⟩
end Go.Proofs.YtcbhmpkginebaaaDoor
