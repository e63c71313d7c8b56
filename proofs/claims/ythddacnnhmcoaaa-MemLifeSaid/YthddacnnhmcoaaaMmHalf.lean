/-
  A memory half way to one of the call's own: its values in one block, row after row.
-/
import Derived.Test.YthddacnnhmcoaaaMmClone
namespace Go.Proofs.Ythddacnnhmcoaaa
set_option linter.unusedVariables false
set_option linter.unusedSimpArgs false
open Go.ChangeShapes Go.WideShapes Go.ChangeAt Go.RowKit

def valsOf (rows : List BkR) : List Vl := rows.flatMap BkR.cells
def preN (rows : List BkR) (j : Nat) : Nat := (valsOf (rows.take j)).length
theorem preN_zero (rows : List BkR) : preN rows 0 = 0 := rfl
theorem preN_succ {rows : List BkR} {j : Nat} (h : j < rows.length) : preN rows (j + 1) = preN rows j + (rows.getD j default).cells.length := by
  unfold preN valsOf
  rw [take_succ_getD (d := default) h, List.flatMap_append, List.length_append]
  simp
theorem preN_all (rows : List BkR) : preN rows rows.length = (valsOf rows).length := by unfold preN; rw [List.take_length]
theorem preN_mono (rows : List BkR) (j : Nat) : ∀ d, preN rows j ≤ preN rows (j + d)
  | 0 => Nat.le_refl _
  | d + 1 => by
    by_cases h : j + d < rows.length
    · have := preN_succ h
      have := preN_mono rows j d
      rw [← Nat.add_assoc]
      omega
    · have := preN_mono rows j d
      unfold preN at this ⊢
      rw [List.take_of_length_le (by omega : rows.length ≤ j + d)] at this
      rw [List.take_of_length_le (by omega : rows.length ≤ j + (d + 1))]
      exact this
theorem preN_le {rows : List BkR} {j j' : Nat} (h : j ≤ j') : preN rows j ≤ preN rows j' := by
  have := preN_mono rows j (j' - j)
  rwa [show j + (j' - j) = j' by omega] at this
theorem preN_few {rows : List BkR} (h : ∀ r ∈ rows, r.cells.length ≤ 1000) : ∀ j, j ≤ rows.length → preN rows j ≤ j * 1000
  | 0, _ => Nat.le_refl _
  | j + 1, hj => by
    have h1 := preN_few h j (by omega)
    have h2 := preN_succ (show j < rows.length by omega)
    have h3 := h _ (mem_getD (d := default) (show j < rows.length by omega))
    omega
theorem vals_at {rows : List BkR} {j i : Nat} (hj : j < rows.length) (hi : i < (rows.getD j default).cells.length) : (valsOf rows).getD (preN rows j + i) default = (rows.getD j default).cells.getD i default := by
  have e : valsOf rows = valsOf (rows.take j) ++ ((rows.getD j default).cells ++ valsOf (rows.drop (j + 1))) := by
    unfold valsOf
    conv => lhs; rw [← List.take_append_drop j rows, List.drop_eq_getElem_cons hj]
    rw [List.flatMap_append, List.flatMap_cons, getD_lt rows hj]
  rw [e]
  unfold preN
  rw [List.getD_eq_getElem?_getD, List.getElem?_append_right (by omega), Nat.add_sub_cancel_left, List.getElem?_append_left hi, ← List.getD_eq_getElem?_getD]
theorem splice_at {L cs : List Value} {off p : Nat} (hf : off + cs.length ≤ L.length) (hp : p < off + cs.length) : (splice L off cs).getD p undef = if p < off then L.getD p undef else cs.getD (p - off) undef := by
  unfold splice
  split
  · rename_i h
    rw [List.getD_eq_getElem?_getD, List.getElem?_append_left (by simp; omega), List.getElem?_take_of_lt h, List.getD_eq_getElem?_getD]
  · rename_i h
    have e : (L.take off).length = off := by simp; omega
    rw [List.getD_eq_getElem?_getD, List.getElem?_append_right (by rw [e]; omega), e, List.getElem?_append_left (by omega), List.getD_eq_getElem?_getD]
theorem splice_none (L : List Value) (off : Nat) : splice L off [] = L := by simp [splice]

def BkR.laid (r : BkR) (A : Option Addr) (c : Nat) : BkR := ⟨r.site, r.type, r.depth, r.alive, A, c, r.cells⟩
theorem flat_poke (A : Option Addr) (c : Nat) : ∀ (rows : List BkR) (k : Nat), k < rows.length → (rows.flatMap BkR.cells5).set (k * 5 + 4) (.slice A (rows.getD k default).cells.length c) = (rows.set k ((rows.getD k default).laid A c)).flatMap BkR.cells5
  | r :: rs, 0, _ => rfl
  | r :: rs, k + 1, h => by
    have ih := flat_poke A c rs k (by simpa using h)
    rw [show (k + 1) * 5 + 4 = k * 5 + 4 + 1 + 1 + 1 + 1 + 1 by omega]
    show _ :: _ :: _ :: _ :: _ :: ((rs.flatMap BkR.cells5).set (k * 5 + 4) (.slice A (rs.getD k default).cells.length c)) = _
    rw [ih]
    rfl
theorem mmb_laid (rows : List BkR) (k : Nat) (A : Option Addr) (c : Nat) (h : k < rows.length) : mmb (rows.set k ((rows.getD k default).laid A c)) = mmb rows := by
  unfold mmb
  rw [List.map_set]
  apply List.ext_getElem?
  intro j
  rw [List.getElem?_set]
  split
  · rename_i e
    subst e
    rw [List.length_map, if_pos h, List.getElem?_map, List.getElem?_eq_getElem h, getD_lt rows h]
    rfl
  · rfl

structure HalfM (w0 w : World) (g c gb : Nat) (src cur : List BkR) (k : Nat) (L : List Value) : Prop where
  len : cur.length = src.length
  row : w.ownsRow w0.heap.size 70 5 (.slice (some ⟨g, 0, none⟩) src.length c) src.length (cur.flatMap BkR.cells5)
  buf : w.heap[gb]? = some (.cells L.toArray 29 (0, 0))
  glo : w0.heap.size ≤ gb
  full : L.length = (valsOf src).length * 4
  told : ∀ p, p < preN src k * 4 → L.getD p undef = ((valsOf src).flatMap Vl.cells4).getD p undef
  done : ∀ j, j < k → ∃ q, cur.getD j default = (src.getD j default).laid (some ⟨gb, q, none⟩) (src.getD j default).cells.length ∧ (0 < (src.getD j default).cells.length → q = preN src j * 4)
  left : ∀ j, k ≤ j → cur.getD j default = src.getD j default
  same : mmb cur = mmb src
section
variable {w0 w w' : World} {g c gb k : Nat} {src cur : List BkR} {L : List Value}
theorem HalfM.tb (h : HalfM w0 w g c gb src cur k L) : TBlk w gb 29 := ⟨_, h.buf⟩
theorem HalfM.tg (h : HalfM w0 w g c gb src cur k L) : TBlk w g 70 := by
  rcases h.row.2 with ⟨h', _⟩ | ⟨g', cap', cur', h', hb, hg, _⟩
  · simp at h'
  · simp only [Value.slice.injEq, Option.some.injEq, Addr.mk.injEq, and_true, true_and] at h'
    obtain ⟨rfl, rfl⟩ := h'
    exact ⟨_, hg⟩
theorem HalfM.ne (h : HalfM w0 w g c gb src cur k L) : gb ≠ g := h.tb.ne h.tg (by decide)
theorem HalfM.keep (h : HalfM w0 w g c gb src cur k L) (hb : Below w.heap.size w w') : HalfM w0 w' g c gb src cur k L :=
  ⟨h.len, ownsRow_keep h.row hb, (hb.block gb h.tb.lt).trans h.buf, h.glo, h.full, h.told, h.done, h.left, h.same⟩
theorem HalfM.at_ (h : HalfM w0 w g c gb src cur k L) (hk : k < src.length) {j : Nat} (hj : j < 5) : w.cell? ⟨g, k * 5 + j, none⟩ = some ((src.getD k default).cells5.getD j undef) := by
  have hkc : k < cur.length := by rw [h.len]; exact hk
  rw [h.row.cellAt (k * 5 + j) (by omega)]
  have hf := flat_getD BkR.cells5 5 (fun _ => rfl) default cur k j hkc hj
  rw [h.left k (Nat.le_refl _), List.getD_eq_getElem?_getD] at hf
  have hlt : k * 5 + j < (cur.flatMap BkR.cells5).length := by rw [flat_len5 BkR.cells5 5 (fun _ => rfl)]; omega
  rw [List.getElem?_eq_getElem hlt] at hf ⊢
  exact congrArg some hf
/-- One row more: its values copied, then its header stored. -/
theorem HalfM.step (h : HalfM w0 w g c gb src cur k L) (hk : k < src.length) {q : Nat} (hq : 0 < (src.getD k default).cells.length → q = preN src k * 4)
    (hbuf : w'.heap[gb]? = some (.cells (splice L q ((src.getD k default).cells.flatMap Vl.cells4)).toArray 29 (0, 0))) (hg : w.grownBy w' (some gb)) :
    w'.cell? ⟨g, k * 5 + 4, none⟩ = some ((src.getD k default).cells5.getD 4 undef) ∧ w'.frozen? ⟨g, k * 5 + 4, none⟩ = false ∧
    HalfM w0 (w'.setCell ⟨g, k * 5 + 4, none⟩ (.slice (some ⟨gb, q, none⟩) (src.getD k default).cells.length (src.getD k default).cells.length)) g c gb src (cur.set k ((src.getD k default).laid (some ⟨gb, q, none⟩) (src.getD k default).cells.length)) (k + 1) (splice L q ((src.getD k default).cells.flatMap Vl.cells4)) := by
  have hl := h.left k (Nat.le_refl _)
  have hkc : k < cur.length := by rw [h.len]; exact hk
  have hne := h.ne
  have hrow := h.row.kept hg (.inr (by simp [Value.ownBlock]; exact fun e => hne e.symm))
  obtain ⟨h1, h2⟩ := hrow.stored (k * 5 + 4) (.slice (some ⟨gb, q, none⟩) (src.getD k default).cells.length (src.getD k default).cells.length)
  have hcell : w'.cell? ⟨g, k * 5 + 4, none⟩ = some ((src.getD k default).cells5.getD 4 undef) := by
    rw [World.cell?_of_block (hg.block g h.tg.lt (by simp; exact fun e => hne e.symm))]
    exact h.at_ hk (by omega)
  refine ⟨hcell, hrow.frozenAt _, ⟨by rw [List.length_set, h.len], ?_, ?_, h.glo, ?_, ?_, fun j hj => ?_, fun j hj => ?_, ?_⟩⟩
  · rw [← hl] at h1
    rw [flat_poke (some ⟨gb, q, none⟩) _ cur k hkc, hl] at h1
    exact h1
  · exact (Below.heap_setCell w' _ _ gb hne).trans hbuf
  · by_cases hn : 0 < (src.getD k default).cells.length
    · have hfit : q + ((src.getD k default).cells.flatMap Vl.cells4).length ≤ L.length := by
        rw [flat_len5 Vl.cells4 4 (fun _ => rfl), h.full, hq hn]
        have h3 := preN_succ hk
        have h4 := preN_le (rows := src) (show k + 1 ≤ src.length from hk)
        rw [preN_all] at h4
        omega
      rw [length_splice _ _ _ hfit]; exact h.full
    · rw [List.eq_nil_of_length_eq_zero (by omega : (src.getD k default).cells.length = 0)]
      rw [show ([] : List Vl).flatMap Vl.cells4 = [] from rfl, splice_none]
      exact h.full
  · intro p hp
    rw [preN_succ hk] at hp
    by_cases hn : 0 < (src.getD k default).cells.length
    · have hq' := hq hn
      have h3 := preN_succ hk
      have h4 := preN_le (rows := src) (show k + 1 ≤ src.length from hk)
      rw [preN_all] at h4
      have hfl : ((src.getD k default).cells.flatMap Vl.cells4).length = (src.getD k default).cells.length * 4 := flat_len5 Vl.cells4 4 (fun _ => rfl) _
      rw [splice_at (by rw [hfl, h.full, hq']; omega) (by rw [hfl, hq']; omega)]
      split
      · exact h.told p (by omega)
      · rename_i hge
        subst hq'
        have e := flat_getD Vl.cells4 4 (fun _ => rfl) default (src.getD k default).cells ((p - preN src k * 4) / 4) ((p - preN src k * 4) % 4) (by omega) (by omega)
        have e2 := flat_getD Vl.cells4 4 (fun _ => rfl) default (valsOf src) (preN src k + (p - preN src k * 4) / 4) ((p - preN src k * 4) % 4) (by omega) (by omega)
        rw [vals_at hk (by omega)] at e2
        rw [show (p - preN src k * 4) / 4 * 4 + (p - preN src k * 4) % 4 = p - preN src k * 4 by omega] at e
        rw [show (preN src k + (p - preN src k * 4) / 4) * 4 + (p - preN src k * 4) % 4 = p by omega] at e2
        rw [e, e2]
    · rw [List.eq_nil_of_length_eq_zero (by omega : (src.getD k default).cells.length = 0)]
      rw [show ([] : List Vl).flatMap Vl.cells4 = [] from rfl, splice_none]
      exact h.told p (by omega)
  · by_cases hjk : j = k
    · subst hjk
      exact ⟨q, getD_set_eq _ _ hkc, hq⟩
    · rw [getD_set_ne _ _ (Ne.symm hjk)]
      exact h.done j (by omega)
  · rw [getD_set_ne _ _ (by omega)]
    exact h.left j (by omega)
  · rw [← hl, mmb_laid cur k _ _ hkc]
    exact h.same
theorem HalfM.all (h : HalfM w0 w g c gb src cur k L) (hk : src.length ≤ k) (hsm : ∀ r ∈ src, r.cells.length ≤ 1000) : OwnBl w w0.heap.size (.slice (some ⟨g, 0, none⟩) src.length c) cur := by
  have hd : ∀ i, i < cur.length → ∃ q, cur.getD i default = (src.getD i default).laid (some ⟨gb, q, none⟩) (src.getD i default).cells.length ∧ (0 < (src.getD i default).cells.length → q = preN src i * 4) := fun i hi => h.done i (by have := h.len; omega)
  have hcell : ∀ p, w.cell? ⟨gb, p, none⟩ = L[p]? := fun p => by
    have : Blk w gb 29 L.toArray := h.buf
    rw [this.cells p]; simp
  refine ⟨by rw [h.len]; exact h.row, fun r hr => ?_, fun i hi hn => ?_, fun i i' hi hi' hne b o b' o' e e' hn hn' => ?_⟩
  · obtain ⟨i, hi, rfl⟩ := mem_at (d := default) hr
    obtain ⟨q, e, hq⟩ := hd i hi
    have his : i < src.length := by have := h.len; omega
    have hm := hsm _ (mem_getD (d := default) his)
    rw [e]
    refine ⟨⟨Nat.le_refl _, by unfold maxLen; show (src.getD i default).cells.length ≤ _; omega, fun h => by cases h⟩, fun hn => ?_⟩
    have hn' : 0 < (src.getD i default).cells.length := hn
    refine ⟨gb, q, rfl, Nat.zero_le _, h.tb.lt, fun i' hi' j hj => ?_⟩
    have hi'' : i' < (src.getD i default).cells.length := hi'
    have h3 := preN_succ his
    have h4 := preN_le (rows := src) (show i + 1 ≤ src.length from his)
    have h5 := preN_le (rows := src) (show i + 1 ≤ k by omega)
    rw [preN_all] at h4
    have hq' := hq hn'
    rw [hcell]
    have ht := h.told (q + i' * 4 + j) (by omega)
    have e2 := flat_getD Vl.cells4 4 (fun _ => rfl) default (valsOf src) (preN src i + i') j (by omega) hj
    rw [vals_at his hi'', show (preN src i + i') * 4 + j = q + i' * 4 + j by omega] at e2
    rw [e2, List.getD_eq_getElem?_getD, List.getElem?_eq_getElem (by rw [h.full]; omega)] at ht
    rw [List.getElem?_eq_getElem (by rw [h.full]; omega)]
    have ht' : L[q + i' * 4 + j]'(by rw [h.full]; omega) = ((src.getD i default).cells.getD i' default).cells4.getD j undef := ht
    rw [ht']
    match j, hj with
    | 0, _ => rfl
    | 1, _ => rfl
    | 2, _ => rfl
    | 3, _ => rfl
  · obtain ⟨q, e, hq⟩ := hd i hi
    rw [e]
    exact ⟨gb, q, rfl, h.glo, h.tb⟩
  · obtain ⟨q, e1, hq⟩ := hd i hi
    obtain ⟨q', e1', hq'⟩ := hd i' hi'
    rw [e1] at e hn ⊢
    rw [e1'] at e' hn' ⊢
    have e2 : (some ⟨gb, q, none⟩ : Option Addr) = some ⟨b, o, none⟩ := e
    have e2' : (some ⟨gb, q', none⟩ : Option Addr) = some ⟨b', o', none⟩ := e'
    simp only [Option.some.injEq, Addr.mk.injEq, and_true] at e2 e2'
    obtain ⟨rfl, rfl⟩ := e2
    obtain ⟨rfl, rfl⟩ := e2'
    have his : i < src.length := by have := h.len; omega
    have his' : i' < src.length := by have := h.len; omega
    have hn2 : 0 < (src.getD i default).cells.length := hn
    have hn2' : 0 < (src.getD i' default).cells.length := hn'
    have hq2 := hq hn2
    have hq2' := hq' hn2'
    have h3 := preN_succ his
    have h3' := preN_succ his'
    right
    show q + (src.getD i default).cells.length * 4 ≤ q' ∨ q' + (src.getD i' default).cells.length * 4 ≤ q
    rcases Nat.lt_or_gt_of_ne hne with hlt | hgt
    · have := preN_le (rows := src) (show i + 1 ≤ i' from hlt)
      left; omega
    · have := preN_le (rows := src) (show i' + 1 ≤ i from hgt)
      right; omega
end
end Go.Proofs.Ythddacnnhmcoaaa
