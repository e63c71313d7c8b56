/-
  Rows of the call's own, of which some are done: what the program's Twin of programs goes through.
-/
import Derived.Test.YtcbhmpkginebaaaDoorMg14
import Derived.Test.YtcbhmpkginebaaaDoorMfShClone
import Derived.Test.YtcbhmpkginebaaaDoorMfShSpoil
import Derived.Test.YtcbhmpkginebaaaDoorMfShSame2
namespace Go.Proofs.YtcbhmpkginebaaaDoor
set_option linter.unusedVariables false
set_option linter.unusedSimpArgs false
open Go.ChangeShapes Go.WideShapes Go.ChangeAt Go.RowKit

/-- Of the old blocks none but one may have turned. -/
structure Only (g : Nat) (w w' : World) : Prop where
  size : w.heap.size ≤ w'.heap.size
  block : ∀ k, k < w.heap.size → k ≠ g → w'.heap[k]? = w.heap[k]?
section
variable {g H : Nat} {t : TypeId} {w w' w2 : World}
theorem Only.refl (g : Nat) (w : World) : Only g w w := ⟨Nat.le_refl _, fun _ _ _ => rfl⟩
theorem Only.below (h : Only g w w') (hb : Below H w' w2) (hH : w.heap.size ≤ H) : Only g w w2 := ⟨Nat.le_trans h.size hb.size, fun k hk hne => (hb.block k (by omega)).trans (h.block k hk hne)⟩
theorem Only.set (h : Only g w w') (j : Nat) (u : Value) : Only g w (w'.setCell ⟨g, j, none⟩ u) := ⟨by rw [size_set]; exact h.size, fun k hk hne => (Below.heap_setCell w' _ u k hne).trans (h.block k hk hne)⟩
theorem Only.far (h : Only g w w') {k : Nat} (hk : w.heap.size ≤ k) (j : Nat) (u : Value) : Only g w (w'.setCell ⟨k, j, none⟩ u) := ⟨by rw [size_set]; exact h.size, fun q hq hne => (Below.heap_setCell w' _ u q (by show q ≠ k; omega)).trans (h.block q hq hne)⟩
theorem Only.spare (h : Only g w w') {cs : Array Value} {fr : Nat × Nat} (hg : w.heap[g]? = some (.cells cs t fr)) : Spare t w w' :=
  ⟨h.size, fun k cs' e fr' hk hne => (h.block k (Array.getElem?_eq_some_iff.1 hk).1 (fun e2 => by
    rw [e2, hg] at hk
    injection hk with hk
    injection hk with _ ht _
    exact hne ht.symm)).trans hk⟩
theorem Spare.blk {e : TypeId} {k : Nat} {cs : Array Value} (h : Spare t w w') (hb : Blk w k e cs) (hne : e ≠ t) : Blk w' k e cs := h.block k cs e (0, 0) hb hne
end
theorem own_some {w : World} {lo size n c : Nat} {e : TypeId} {A : Option Addr} {xs : List Value} (h : w.ownsRow lo e size (.slice A n c) n xs) (hn : 0 < n) : ∃ g, A = some ⟨g, 0, none⟩ ∧ lo ≤ g ∧ (∃ cs, w.heap[g]? = some (.cells cs e (0, 0))) ∧ ∀ i, w.frozen? ⟨g, i, none⟩ = false := by
  rcases h.2 with ⟨h1, h2⟩ | ⟨g, cap, cur, h1, h2, h3, _⟩
  · omega
  · injection h1 with e1 e2 e3
    exact ⟨g, e1, h2, ⟨cur, h3⟩, fun i => by simp [World.frozen?, h3]⟩
theorem ext_getD {α : Type} {d : α} {l l' : List α} (hl : l.length = l'.length) (h : ∀ i, i < l.length → l.getD i d = l'.getD i d) : l = l' := by
  apply List.ext_getElem hl
  intro i h1 h2
  have := h i h1
  rwa [getD_lt l h1, getD_lt l' h2] at this
theorem flat_same {α : Type} (f : α → List Value) : ∀ (l : List α) (k : Nat) (x x' : α), f x = f x' → (l.set k x).flatMap f = (l.set k x').flatMap f
  | [], k, _, _, _ => by simp
  | y :: l, 0, x, x', h => by simp [h]
  | y :: l, k + 1, x, x', h => by simp [flat_same f l k x x' h]
theorem blOwn_keep {w w' : World} {lo : Nat} {r : BlR} (h : r.Own w lo) (hb : Below w.heap.size w w') : r.Own w' lo := ⟨h.kind, h.ins.keep hb⟩
theorem cells7_cell (r : InR) (j : Nat) (hj : j < 7) : r.cells7.getD j undef = r.cell j :=
  match j, hj with
  | 0, _ => rfl
  | 1, _ => rfl
  | 2, _ => rfl
  | 3, _ => rfl
  | 4, _ => rfl
  | 5, _ => rfl
  | 6, _ => rfl
structure HalfI (w : World) (lo : Nat) (A : Option Addr) (c : Nat) (src cur : List InR) (n m : Nat) : Prop where
  len : cur.length = src.length
  row : w.ownsRow lo 24 7 (.slice A src.length c) src.length (cur.flatMap InR.cells7)
  done : ∀ i, i < n → (cur.getD i default).Own w lo ∧ (cur.getD i default).data = (src.getD i default).data
  rest : ∀ i, m ≤ i → i < src.length → cur.getD i default = src.getD i default
section
variable {w w' : World} {lo c n m : Nat} {A : Option Addr} {src cur : List InR}
theorem HalfI.zero (h : w.ownsRow lo 24 7 (.slice A src.length c) src.length (src.flatMap InR.cells7)) : HalfI w lo A c src src 0 0 := ⟨rfl, h, fun i hi => absurd hi (Nat.not_lt_zero _), fun _ _ _ => rfl⟩
theorem HalfI.keep (h : HalfI w lo A c src cur n m) (hb : Below w.heap.size w w') : HalfI w' lo A c src cur n m := ⟨h.len, ownsRow_keep h.row hb, fun i hi => ⟨InR.Own.keep (h.done i hi).1 hb, (h.done i hi).2⟩, h.rest⟩
theorem HalfI.at_ (h : HalfI w lo A c src cur n m) {i : Nat} (hi : i < src.length) : ∃ g, A = some ⟨g, 0, none⟩ ∧ lo ≤ g ∧ (∃ cs, w.heap[g]? = some (.cells cs 24 (0, 0))) ∧ (∀ q, w.frozen? ⟨g, q, none⟩ = false) ∧ ∀ j, j < 7 → w.cell? ⟨g, i * 7 + j, none⟩ = some ((cur.getD i default).cell j) := by
  obtain ⟨g, rfl, h1, h2, h3⟩ := own_some h.row (by omega)
  refine ⟨g, rfl, h1, h2, h3, fun j hj => ?_⟩
  have hl := h.len
  have hlt : i * 7 + j < (cur.flatMap InR.cells7).length := by rw [flatN_len InR.cells7 7 (fun _ => rfl), hl]; omega
  rw [h.row.cellAt (i * 7 + j) (by omega), ← cells7_cell _ j hj, ← flat_getD InR.cells7 7 (fun _ => rfl) default cur i j (by omega) hj, List.getD_eq_getElem?_getD, List.getElem?_eq_getElem hlt]
  rfl
/-- One cell of row n is written. -/
theorem HalfI.stored {g j : Nat} {r' : InR} {u : Value} (h : HalfI w lo (some ⟨g, 0, none⟩) c src cur n m) (hn : n < src.length) (hm : m ≤ n + 1) (hj : j < 7) (hg : ∃ cs, w.heap[g]? = some (.cells cs 24 (0, 0))) (hr : r'.cells7 = (cur.getD n default).cells7.set j u) :
    HalfI (w.setCell ⟨g, n * 7 + j, none⟩ u) lo (some ⟨g, 0, none⟩) c src (cur.set n r') n (n + 1) := by
  obtain ⟨cs, hg⟩ := hg
  refine ⟨by rw [List.length_set]; exact h.len, ?_, fun i hi => ?_, fun i hi hl => ?_⟩
  · rw [flat_set InR.cells7 7 (fun _ => rfl) cur n r' j u (by rw [h.len]; exact hn) hj hr]
    exact (h.row.stored (n * 7 + j) u).1
  · rw [set_getD_other (by omega)]
    exact ⟨InR.Own.spare (h.done i hi).1 (Spare.set hg _) (by decide), (h.done i hi).2⟩
  · rw [set_getD_other (by omega)]
    exact h.rest i (by omega) hl
theorem HalfI.bump (h : HalfI w lo A c src cur n (n + 1)) (h1 : (cur.getD n default).Own w lo) (h2 : (cur.getD n default).data = (src.getD n default).data) : HalfI w lo A c src cur (n + 1) (n + 1) :=
  ⟨h.len, h.row, fun i hi => by
    by_cases e : i = n
    · subst e; exact ⟨h1, h2⟩
    · exact h.done i (by omega), h.rest⟩
theorem HalfI.all (h : HalfI w lo A c src cur n m) (hn : src.length ≤ n) : OwnIns w lo (.slice A cur.length c) cur ∧ insD cur = insD src := by
  refine ⟨⟨by rw [h.len]; exact h.row, fun r hr => ?_⟩, ?_⟩
  · obtain ⟨i, hi, rfl⟩ := List.mem_iff_getElem.1 hr
    have := (h.done i (by rw [← h.len] at hn; omega)).1
    rwa [getD_lt cur hi] at this
  · apply ext_getD (d := default) (by rw [insD_len, insD_len, h.len])
    intro i hi
    rw [insD_len] at hi
    rw [insD_at hi, insD_at (by rw [← h.len]; exact hi)]
    exact (h.done i (by rw [← h.len] at hn; omega)).2
end
theorem cells5_cell (r : BlR) (j : Nat) (hj : j < 5) : r.cells5.getD j undef = r.cell j :=
  match j, hj with
  | 0, _ => rfl
  | 1, _ => rfl
  | 2, _ => rfl
  | 3, _ => rfl
  | 4, _ => rfl
structure HalfB (w : World) (lo : Nat) (A : Option Addr) (c : Nat) (src cur : List BlR) (n m : Nat) : Prop where
  len : cur.length = src.length
  row : w.ownsRow lo 58 5 (.slice A src.length c) src.length (cur.flatMap BlR.cells5)
  done : ∀ i, i < n → (cur.getD i default).Own w lo ∧ (cur.getD i default).data = (src.getD i default).data
  rest : ∀ i, m ≤ i → i < src.length → cur.getD i default = src.getD i default
section
variable {w w' : World} {lo c n m : Nat} {A : Option Addr} {src cur : List BlR}
theorem HalfB.zero (h : w.ownsRow lo 58 5 (.slice A src.length c) src.length (src.flatMap BlR.cells5)) : HalfB w lo A c src src 0 0 := ⟨rfl, h, fun i hi => absurd hi (Nat.not_lt_zero _), fun _ _ _ => rfl⟩
theorem HalfB.keep (h : HalfB w lo A c src cur n m) (hb : Below w.heap.size w w') : HalfB w' lo A c src cur n m := ⟨h.len, ownsRow_keep h.row hb, fun i hi => ⟨blOwn_keep (h.done i hi).1 hb, (h.done i hi).2⟩, h.rest⟩
theorem HalfB.at_ (h : HalfB w lo A c src cur n m) {i : Nat} (hi : i < src.length) : ∃ g, A = some ⟨g, 0, none⟩ ∧ lo ≤ g ∧ (∃ cs, w.heap[g]? = some (.cells cs 58 (0, 0))) ∧ (∀ q, w.frozen? ⟨g, q, none⟩ = false) ∧ ∀ j, j < 5 → w.cell? ⟨g, i * 5 + j, none⟩ = some ((cur.getD i default).cell j) := by
  obtain ⟨g, rfl, h1, h2, h3⟩ := own_some h.row (by omega)
  refine ⟨g, rfl, h1, h2, h3, fun j hj => ?_⟩
  have hl := h.len
  have hlt : i * 5 + j < (cur.flatMap BlR.cells5).length := by rw [flatN_len BlR.cells5 5 (fun _ => rfl), hl]; omega
  rw [h.row.cellAt (i * 5 + j) (by omega), ← cells5_cell _ j hj, ← flat_getD BlR.cells5 5 (fun _ => rfl) default cur i j (by omega) hj, List.getD_eq_getElem?_getD, List.getElem?_eq_getElem hlt]
  rfl
/-- One cell of row n is written. -/
theorem HalfB.stored {g j : Nat} {r' : BlR} {u : Value} (h : HalfB w lo (some ⟨g, 0, none⟩) c src cur n m) (hn : n < src.length) (hm : m ≤ n + 1) (hj : j < 5) (hg : ∃ cs, w.heap[g]? = some (.cells cs 58 (0, 0))) (hr : r'.cells5 = (cur.getD n default).cells5.set j u) :
    HalfB (w.setCell ⟨g, n * 5 + j, none⟩ u) lo (some ⟨g, 0, none⟩) c src (cur.set n r') n (n + 1) := by
  obtain ⟨cs, hg⟩ := hg
  refine ⟨by rw [List.length_set]; exact h.len, ?_, fun i hi => ?_, fun i hi hl => ?_⟩
  · rw [flat_set BlR.cells5 5 (fun _ => rfl) cur n r' j u (by rw [h.len]; exact hn) hj hr]
    exact (h.row.stored (n * 5 + j) u).1
  · rw [set_getD_other (by omega)]
    exact ⟨BlR.Own.spare (h.done i hi).1 (Spare.set hg _) (by decide) (by decide), (h.done i hi).2⟩
  · rw [set_getD_other (by omega)]
    exact h.rest i (by omega) hl
theorem HalfB.bump (h : HalfB w lo A c src cur n (n + 1)) (h1 : (cur.getD n default).Own w lo) (h2 : (cur.getD n default).data = (src.getD n default).data) : HalfB w lo A c src cur (n + 1) (n + 1) :=
  ⟨h.len, h.row, fun i hi => by
    by_cases e : i = n
    · subst e; exact ⟨h1, h2⟩
    · exact h.done i (by omega), h.rest⟩
theorem HalfB.all (h : HalfB w lo A c src cur n m) (hn : src.length ≤ n) : OwnBls w lo (.slice A cur.length c) cur ∧ blkD cur = blkD src := by
  refine ⟨⟨by rw [h.len]; exact h.row, fun r hr => ?_⟩, ?_⟩
  · obtain ⟨i, hi, rfl⟩ := List.mem_iff_getElem.1 hr
    have := (h.done i (by rw [← h.len] at hn; omega)).1
    rwa [getD_lt cur hi] at this
  · apply ext_getD (d := default) (by rw [blkD_len, blkD_len, h.len])
    intro i hi
    rw [blkD_len] at hi
    rw [blkD_at hi, blkD_at (by rw [← h.len]; exact hi)]
    exact (h.done i (by rw [← h.len] at hn; omega)).2
end
theorem cells2_cell (r : FuR) (j : Nat) (hj : j < 2) : r.cells2.getD j undef = r.cell j :=
  match j, hj with
  | 0, _ => rfl
  | 1, _ => rfl
structure HalfF (w : World) (lo : Nat) (A : Option Addr) (c : Nat) (src cur : List FuR) (n m : Nat) : Prop where
  len : cur.length = src.length
  row : w.ownsRow lo 55 2 (.slice A src.length c) src.length (cur.flatMap FuR.cells2)
  done : ∀ i, i < n → (cur.getD i default).Own w lo ∧ (cur.getD i default).data = (src.getD i default).data
  rest : ∀ i, m ≤ i → i < src.length → cur.getD i default = src.getD i default
section
variable {w w' : World} {lo c n m : Nat} {A : Option Addr} {src cur : List FuR}
theorem HalfF.zero (h : w.ownsRow lo 55 2 (.slice A src.length c) src.length (src.flatMap FuR.cells2)) : HalfF w lo A c src src 0 0 := ⟨rfl, h, fun i hi => absurd hi (Nat.not_lt_zero _), fun _ _ _ => rfl⟩
theorem HalfF.keep (h : HalfF w lo A c src cur n m) (hb : Below w.heap.size w w') : HalfF w' lo A c src cur n m := ⟨h.len, ownsRow_keep h.row hb, fun i hi => ⟨OwnBls.keep (h.done i hi).1 hb, (h.done i hi).2⟩, h.rest⟩
theorem HalfF.at_ (h : HalfF w lo A c src cur n m) {i : Nat} (hi : i < src.length) : ∃ g, A = some ⟨g, 0, none⟩ ∧ lo ≤ g ∧ (∃ cs, w.heap[g]? = some (.cells cs 55 (0, 0))) ∧ (∀ q, w.frozen? ⟨g, q, none⟩ = false) ∧ ∀ j, j < 2 → w.cell? ⟨g, i * 2 + j, none⟩ = some ((cur.getD i default).cell j) := by
  obtain ⟨g, rfl, h1, h2, h3⟩ := own_some h.row (by omega)
  refine ⟨g, rfl, h1, h2, h3, fun j hj => ?_⟩
  have hl := h.len
  have hlt : i * 2 + j < (cur.flatMap FuR.cells2).length := by rw [flatN_len FuR.cells2 2 (fun _ => rfl), hl]; omega
  rw [h.row.cellAt (i * 2 + j) (by omega), ← cells2_cell _ j hj, ← flat_getD FuR.cells2 2 (fun _ => rfl) default cur i j (by omega) hj, List.getD_eq_getElem?_getD, List.getElem?_eq_getElem hlt]
  rfl
/-- One cell of row n is written. -/
theorem HalfF.stored {g j : Nat} {r' : FuR} {u : Value} (h : HalfF w lo (some ⟨g, 0, none⟩) c src cur n m) (hn : n < src.length) (hm : m ≤ n + 1) (hj : j < 2) (hg : ∃ cs, w.heap[g]? = some (.cells cs 55 (0, 0))) (hr : r'.cells2 = (cur.getD n default).cells2.set j u) :
    HalfF (w.setCell ⟨g, n * 2 + j, none⟩ u) lo (some ⟨g, 0, none⟩) c src (cur.set n r') n (n + 1) := by
  obtain ⟨cs, hg⟩ := hg
  refine ⟨by rw [List.length_set]; exact h.len, ?_, fun i hi => ?_, fun i hi hl => ?_⟩
  · rw [flat_set FuR.cells2 2 (fun _ => rfl) cur n r' j u (by rw [h.len]; exact hn) hj hr]
    exact (h.row.stored (n * 2 + j) u).1
  · rw [set_getD_other (by omega)]
    exact ⟨OwnBls.spare (h.done i hi).1 (Spare.set hg _) (by decide) (by decide) (by decide), (h.done i hi).2⟩
  · rw [set_getD_other (by omega)]
    exact h.rest i (by omega) hl
theorem HalfF.bump (h : HalfF w lo A c src cur n (n + 1)) (h1 : (cur.getD n default).Own w lo) (h2 : (cur.getD n default).data = (src.getD n default).data) : HalfF w lo A c src cur (n + 1) (n + 1) :=
  ⟨h.len, h.row, fun i hi => by
    by_cases e : i = n
    · subst e; exact ⟨h1, h2⟩
    · exact h.done i (by omega), h.rest⟩
theorem HalfF.all (h : HalfF w lo A c src cur n m) (hn : src.length ≤ n) : OwnFus w lo (.slice A cur.length c) cur ∧ funD cur = funD src := by
  refine ⟨⟨by rw [h.len]; exact h.row, fun r hr => ?_⟩, ?_⟩
  · obtain ⟨i, hi, rfl⟩ := List.mem_iff_getElem.1 hr
    have := (h.done i (by rw [← h.len] at hn; omega)).1
    rwa [getD_lt cur hi] at this
  · apply ext_getD (d := default) (by rw [funD_len, funD_len, h.len])
    intro i hi
    rw [funD_len] at hi
    rw [funD_at hi, funD_at (by rw [← h.len]; exact hi)]
    exact (h.done i (by rw [← h.len] at hn; omega)).2
end
end Go.Proofs.YtcbhmpkginebaaaDoor
