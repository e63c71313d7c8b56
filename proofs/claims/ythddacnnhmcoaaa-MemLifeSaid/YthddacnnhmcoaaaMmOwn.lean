/-
  Memories that the call owns: what lies where, and what a store leaves.
-/
import Derived.Test.YthddacnnhmcoaaaMmData
import Derived.OwnWalk
import Derived.Laws.OwnMore
namespace Go.Proofs.Ythddacnnhmcoaaa
set_option linter.unusedVariables false
set_option linter.unusedSimpArgs false
open Go.ChangeShapes Go.WideShapes Go.ChangeAt Go.RowKit

/-- A block of one type, none of it frozen. -/
def TBlk (w : World) (g : Nat) (t : TypeId) : Prop := ∃ cur : Array Value, w.heap[g]? = some (.cells cur t (0, 0))
section
variable {w w' : World} {g g' : Nat} {t t' : TypeId}
theorem TBlk.lt (h : TBlk w g t) : g < w.heap.size := by
  obtain ⟨cur, h⟩ := h
  exact (Array.getElem?_eq_some_iff.1 h).1
theorem TBlk.free (h : TBlk w g t) (i : Nat) : w.frozen? ⟨g, i, none⟩ = false := by
  obtain ⟨cur, h⟩ := h
  simp [World.frozen?, h]
theorem TBlk.ne (h : TBlk w g t) (h' : TBlk w g' t') (hn : t ≠ t') : g ≠ g' := by
  rintro rfl
  obtain ⟨cur, h⟩ := h
  obtain ⟨cur', h'⟩ := h'
  rw [h] at h'
  injection h' with h'
  injection h' with _ ht _
  exact hn ht
theorem TBlk.beneath (h : TBlk w g t) (hb : Below w.heap.size w w') : TBlk w' g t := by
  have hl := h.lt
  obtain ⟨cur, h⟩ := h
  exact ⟨cur, (hb.block g hl).trans h⟩
theorem TBlk.put (h : TBlk w g t) (p : Addr) (u : Value) : TBlk (w.setCell p u) g t := by
  by_cases e : g = p.block
  · obtain ⟨cur, h⟩ := h
    subst e
    cases hs : p.spot with
    | none =>
      refine ⟨cur.setIfInBounds p.off u, ?_⟩
      simp [World.setCell, Array.getElem?_modify, h, hs]
    | some q =>
      refine ⟨cur, ?_⟩
      simp [World.setCell, Array.getElem?_modify, h, hs]
  · obtain ⟨cur, h⟩ := h
    exact ⟨cur, (Below.heap_setCell w p u g e).trans h⟩
end
theorem size_set (w : World) (a : Addr) (v : Value) : (w.setCell a v).heap.size = w.heap.size := by simp [World.setCell]
theorem getD_set_eq {α : Type} {d : α} (l : List α) (x : α) {i : Nat} (h : i < l.length) : (l.set i x).getD i d = x := by
  rw [List.getD_eq_getElem?_getD, List.getElem?_set_self h]; rfl
theorem getD_set_ne {α : Type} {d : α} (l : List α) (x : α) {i j : Nat} (h : i ≠ j) : (l.set i x).getD j d = l.getD j d := by
  rw [List.getD_eq_getElem?_getD, List.getElem?_set_ne h, List.getD_eq_getElem?_getD]
theorem mem_at {α : Type} {d : α} {l : List α} {x : α} (h : x ∈ l) : ∃ i, i < l.length ∧ l.getD i d = x := by
  obtain ⟨i, hi, e⟩ := List.mem_iff_getElem.1 h
  exact ⟨i, hi, by rw [getD_lt l hi, e]⟩

structure MemOwn (w : World) (lo : Nat) (A : Option Addr) (c : Nat) (rows : List BkR) : Prop where
  mem : MemIn w A c rows
  top : 0 < rows.length → ∃ g, A = some ⟨g, 0, none⟩ ∧ lo ≤ g ∧ TBlk w g 70
  val : ∀ i, i < rows.length → 0 < (rows.getD i default).cells.length → ∃ b o, (rows.getD i default).ca = some ⟨b, o, none⟩ ∧ lo ≤ b ∧ TBlk w b 29
  apart : ∀ i i', i < rows.length → i' < rows.length → i ≠ i' → ∀ b o b' o', (rows.getD i default).ca = some ⟨b, o, none⟩ → (rows.getD i' default).ca = some ⟨b', o', none⟩ → 0 < (rows.getD i default).cells.length → 0 < (rows.getD i' default).cells.length → b ≠ b' ∨ o + (rows.getD i default).cells.length * 4 ≤ o' ∨ o' + (rows.getD i' default).cells.length * 4 ≤ o
section
variable {w w' : World} {lo lo' c : Nat} {A : Option Addr} {rows : List BkR}
theorem MemOwn.nil (w : World) (lo : Nat) : MemOwn w lo none 0 [] := ⟨MemIn.none, fun h => absurd h (by simp), fun i hi => absurd hi (by simp), fun i i' hi => absurd hi (by simp)⟩
theorem MemOwn.on (h : MemOwn w lo A c rows) (hb : Below w.heap.size w w') : MemOwn w' lo A c rows := by
  refine ⟨h.mem.on hb, fun hn => ?_, fun i hi hn => ?_, h.apart⟩
  · obtain ⟨g, h1, h2, h3⟩ := h.top hn
    exact ⟨g, h1, h2, h3.beneath hb⟩
  · obtain ⟨b, o, h1, h2, h3⟩ := h.val i hi hn
    exact ⟨b, o, h1, h2, h3.beneath hb⟩
theorem MemOwn.more (h : MemOwn w lo A c rows) (hl : lo' ≤ lo) : MemOwn w lo' A c rows := by
  refine ⟨h.mem, fun hn => ?_, fun i hi hn => ?_, h.apart⟩
  · obtain ⟨g, h1, h2, h3⟩ := h.top hn
    exact ⟨g, h1, by omega, h3⟩
  · obtain ⟨b, o, h1, h2, h3⟩ := h.val i hi hn
    exact ⟨b, o, h1, by omega, h3⟩
theorem ValsAt.apart {w : World} {lo B : Nat} {A : Option Addr} {vs : List Vl} (h : ValsAt w lo B A vs) {p : Addr} {u : Value} (hp : ∀ b o, A = some ⟨b, o, none⟩ → 0 < vs.length → b ≠ p.block ∨ p.off < o ∨ o + vs.length * 4 ≤ p.off) : ValsAt (w.setCell p u) lo B A vs := by
  intro hn
  obtain ⟨b, o, e, h1, h2, hc⟩ := h hn
  refine ⟨b, o, e, h1, h2, fun i hi j hj => ?_⟩
  rw [World.cell?_setCell_other]
  · exact hc i hi j hj
  · intro e2
    rcases hp b o e hn with h3 | h3
    · rw [e2] at h3; exact h3 rfl
    · have : p.off = o + i * 4 + j := by rw [e2]
      have := Nat.mul_le_mul_right 4 (show i + 1 ≤ vs.length from hi)
      rw [Nat.add_mul, Nat.one_mul] at this
      omega
/-- A store into a row, its list left. -/
theorem MemOwn.putRow (h : MemOwn w lo A c rows) {i j : Nat} (hi : i < rows.length) (hj : j < 4) (r' : BkR) (h1 : r'.ca = (rows.getD i default).ca) (h2 : r'.cc = (rows.getD i default).cc) (h3 : r'.cells = (rows.getD i default).cells)
    (h4 : ∀ q, q < 5 → q ≠ j → r'.cell q = (rows.getD i default).cell q) :
    ∃ g, A = some ⟨g, 0, none⟩ ∧ lo ≤ g ∧ g < w.heap.size ∧ w.cell? ⟨g, i * 5 + j, none⟩ = some ((rows.getD i default).cell j) ∧ w.frozen? ⟨g, i * 5 + j, none⟩ = false ∧ MemOwn (w.setCell ⟨g, i * 5 + j, none⟩ (r'.cell j)) lo A c (rows.set i r') := by
  obtain ⟨g, hA, hlo, hg⟩ := h.top (by omega)
  subst hA
  obtain ⟨b, off, e, _, hbl, hc⟩ := h.mem.rows.cells (by omega)
  injection e with e
  injection e with e1 e2 _
  subst e1 e2
  have hcell : w.cell? ⟨g, i * 5 + j, none⟩ = some ((rows.getD i default).cell j) := by have := hc i hi j (by omega); rwa [Nat.zero_add] at this
  have hsame : ∀ q, (rows.set i r').getD q default = if q = i then r' else rows.getD q default := fun q => by
    by_cases e : q = i
    · subst e; rw [if_pos rfl, getD_set_eq _ _ hi]
    · rw [if_neg e, getD_set_ne _ _ (fun e2 => e e2.symm)]
  have hca : ∀ q, ((rows.set i r').getD q default).ca = (rows.getD q default).ca ∧ ((rows.set i r').getD q default).cells = (rows.getD q default).cells ∧ ((rows.set i r').getD q default).cc = (rows.getD q default).cc := fun q => by
    rw [hsame]
    by_cases e : q = i
    · subst e; rw [if_pos rfl]; exact ⟨h1, h3, h2⟩
    · rw [if_neg e]; exact ⟨rfl, rfl, rfl⟩
  refine ⟨g, rfl, hlo, hg.lt, hcell, hg.free _, ⟨⟨?_, ⟨?_, ?_⟩⟩, ?_, ?_, ?_⟩⟩
  · rw [List.length_set]; exact h.mem.hdr
  · rw [List.length_set, size_set]
    intro _
    refine ⟨g, 0, rfl, Nat.zero_le _, hg.lt, fun i' hi' j' hj' => ?_⟩
    dsimp only
    rw [Nat.zero_add]
    by_cases e : i' * 5 + j' = i * 5 + j
    · have e1 : i' = i := by omega
      have e2 : j' = j := by omega
      subst e1 e2
      rw [hsame, if_pos rfl]
      exact World.cell?_setCell_same w _ _ hcell
    · rw [World.cell?_setCell_other _ _ _ _ (fun e9 => e (by injection e9 with _ e9 _; exact e9.symm))]
      have := hc i' hi' j' hj'
      dsimp only at this
      rw [Nat.zero_add] at this
      rw [this, hsame]
      by_cases e1 : i' = i
      · subst e1
        rw [if_pos rfl, h4 j' hj' (fun e2 => e (by rw [e2]))]
      · rw [if_neg e1]
  · intro r hr
    obtain ⟨q, hq, rfl⟩ := mem_at (d := default) hr
    rw [List.length_set] at hq
    obtain ⟨a1, a2, a3⟩ := hca q
    have hrow := h.mem.row hq
    refine ⟨by rw [a1, a2, a3]; exact hrow.hdr, ?_⟩
    rw [a1, a2, size_set]
    refine hrow.vals.apart fun b o e hn => .inl ?_
    obtain ⟨b', o', e', _, hb'⟩ := h.val q hq hn
    rw [e] at e'
    injection e' with e'
    injection e' with e1 _ _
    subst e1
    exact hb'.ne hg (by decide)
  · intro _
    exact ⟨g, rfl, hlo, hg.put _ _⟩
  · intro q hq hn
    rw [List.length_set] at hq
    obtain ⟨a1, a2, a3⟩ := hca q
    rw [a2] at hn
    obtain ⟨b', o', e', hl', hb'⟩ := h.val q hq hn
    exact ⟨b', o', by rw [a1]; exact e', hl', hb'.put _ _⟩
  · intro q q' hq hq' hne
    rw [List.length_set] at hq hq'
    rw [(hca q).1, (hca q').1, (hca q).2.1, (hca q').2.1]
    exact h.apart q q' hq hq' hne
/-- A store into a value. -/
theorem MemOwn.putVal (h : MemOwn w lo A c rows) {i k j : Nat} (hi : i < rows.length) (hk : k < (rows.getD i default).cells.length) (hj : j < 4) (v' : Vl)
    (h4 : ∀ q, q < 4 → q ≠ j → v'.cell q = ((rows.getD i default).cells.getD k default).cell q) :
    ∃ b o, (rows.getD i default).ca = some ⟨b, o, none⟩ ∧ lo ≤ b ∧ b < w.heap.size ∧ w.cell? ⟨b, o + k * 4 + j, none⟩ = some (((rows.getD i default).cells.getD k default).cell j) ∧ w.frozen? ⟨b, o + k * 4 + j, none⟩ = false ∧
      MemOwn (w.setCell ⟨b, o + k * 4 + j, none⟩ (v'.cell j)) lo A c (rows.set i { rows.getD i default with cells := (rows.getD i default).cells.set k v' }) := by
  obtain ⟨b, o, hca0, hlo, hb⟩ := h.val i hi (by omega)
  obtain ⟨g, hA, hlog, hg⟩ := h.top (by omega)
  have hbg : b ≠ g := hb.ne hg (by decide)
  have hvals := (h.mem.row hi).vals
  obtain ⟨b2, o2, e, _, _, hc⟩ := hvals (by omega)
  rw [hca0] at e
  injection e with e
  injection e with e1 e2 _
  subst e1 e2
  have hcell := hc k hk j hj
  have hsame : ∀ q, (rows.set i { rows.getD i default with cells := (rows.getD i default).cells.set k v' }).getD q default = if q = i then { rows.getD i default with cells := (rows.getD i default).cells.set k v' } else rows.getD q default := fun q => by
    by_cases e : q = i
    · subst e; rw [if_pos rfl, getD_set_eq _ _ hi]
    · rw [if_neg e, getD_set_ne _ _ (fun e2 => e e2.symm)]
  have hca : ∀ q, ((rows.set i { rows.getD i default with cells := (rows.getD i default).cells.set k v' }).getD q default).ca = (rows.getD q default).ca ∧ ((rows.set i { rows.getD i default with cells := (rows.getD i default).cells.set k v' }).getD q default).cells.length = (rows.getD q default).cells.length ∧ ((rows.set i { rows.getD i default with cells := (rows.getD i default).cells.set k v' }).getD q default).cc = (rows.getD q default).cc ∧ ∀ j', ((rows.set i { rows.getD i default with cells := (rows.getD i default).cells.set k v' }).getD q default).cell j' = (rows.getD q default).cell j' := fun q => by
    rw [hsame]
    by_cases e : q = i
    · subst e
      rw [if_pos rfl]
      refine ⟨rfl, List.length_set, rfl, fun j' => ?_⟩
      match j' with
      | 0 => rfl
      | 1 => rfl
      | 2 => rfl
      | 3 => rfl
      | n + 4 => show Value.slice _ _ _ = Value.slice _ _ _; rw [List.length_set]
    · rw [if_neg e]; exact ⟨rfl, rfl, rfl, fun _ => rfl⟩
  refine ⟨b, o, hca0, hlo, hb.lt, hcell, hb.free _, ⟨⟨?_, ⟨?_, ?_⟩⟩, ?_, ?_, ?_⟩⟩
  · rw [List.length_set]; exact h.mem.hdr
  · rw [List.length_set, size_set]
    intro hn
    obtain ⟨b3, o3, e3, l3, s3, hc3⟩ := h.mem.rows.cells hn
    rw [hA] at e3
    have e4 := e3
    injection e3 with e3
    injection e3 with e5 e6 _
    subst e5 e6
    refine ⟨g, 0, hA, l3, s3, fun i' hi' j' hj' => ?_⟩
    dsimp only
    rw [World.cell?_setCell_other _ _ _ _ (fun e => hbg (by injection e)), (hca i').2.2.2]
    exact hc3 i' hi' j' hj'
  · intro r hr
    obtain ⟨q, hq, rfl⟩ := mem_at (d := default) hr
    rw [List.length_set] at hq
    have hrow := h.mem.row hq
    by_cases e : q = i
    · subst e
      rw [hsame, if_pos rfl, size_set]
      refine ⟨by show Hdr _ (List.length _) _; rw [List.length_set]; exact hrow.hdr, ?_⟩
      show ValsAt _ _ _ (rows.getD q default).ca ((rows.getD q default).cells.set k v')
      intro _
      refine ⟨b, o, hca0, Nat.zero_le _, hb.lt, fun k' hk' j' hj' => ?_⟩
      dsimp only
      rw [List.length_set] at hk'
      by_cases e2 : o + k' * 4 + j' = o + k * 4 + j
      · have e3 : k' = k := by omega
        have e4 : j' = j := by omega
        subst e3 e4
        rw [getD_set_eq _ _ hk]
        exact World.cell?_setCell_same w _ _ hcell
      · rw [World.cell?_setCell_other _ _ _ _ (fun e9 => e2 (by injection e9 with _ e9 _; exact e9.symm)), hc k' hk' j' hj']
        dsimp only
        by_cases e3 : k' = k
        · subst e3
          rw [getD_set_eq _ _ hk, h4 j' hj' (fun e4 => e2 (by rw [e4]))]
        · rw [getD_set_ne _ _ (fun e4 => e3 e4.symm)]
    · rw [hsame, if_neg e, size_set]
      refine ⟨hrow.hdr, hrow.vals.apart fun b' o' e' hn => ?_⟩
      rcases h.apart i q hi hq (fun e2 => e e2.symm) b o b' o' hca0 e' (by omega) hn with h5 | h5 | h5
      · exact .inl (fun e2 => h5 e2.symm)
      · right; left
        show o + k * 4 + j < o'
        have := Nat.mul_le_mul_right 4 (show k + 1 ≤ (rows.getD i default).cells.length from hk)
        rw [Nat.add_mul, Nat.one_mul] at this
        omega
      · right; right
        show o' + _ ≤ o + k * 4 + j
        omega
  · intro _
    exact ⟨g, hA, hlog, hg.put _ _⟩
  · intro q hq hn
    rw [List.length_set] at hq
    obtain ⟨a1, a2, _, _⟩ := hca q
    rw [a2] at hn
    obtain ⟨b', o', e', hl', hb'⟩ := h.val q hq hn
    exact ⟨b', o', by rw [a1]; exact e', hl', hb'.put _ _⟩
  · intro q q' hq hq' hne
    rw [List.length_set] at hq hq'
    rw [(hca q).1, (hca q').1, (hca q).2.1, (hca q').2.1]
    exact h.apart q q' hq hq' hne
end
/-- A memory of the call's own, its row one that may grow. -/
structure OwnBl (w : World) (lo : Nat) (v : Value) (rows : List BkR) : Prop where
  row : w.ownsRow lo 70 5 v rows.length (rows.flatMap BkR.cells5)
  ok : ∀ r ∈ rows, r.Ok w 0 w.heap.size
  val : ∀ i, i < rows.length → 0 < (rows.getD i default).cells.length → ∃ b o, (rows.getD i default).ca = some ⟨b, o, none⟩ ∧ lo ≤ b ∧ TBlk w b 29
  apart : ∀ i i', i < rows.length → i' < rows.length → i ≠ i' → ∀ b o b' o', (rows.getD i default).ca = some ⟨b, o, none⟩ → (rows.getD i' default).ca = some ⟨b', o', none⟩ → 0 < (rows.getD i default).cells.length → 0 < (rows.getD i' default).cells.length → b ≠ b' ∨ o + (rows.getD i default).cells.length * 4 ≤ o' ∨ o' + (rows.getD i' default).cells.length * 4 ≤ o
theorem flat_getD {α : Type} (f : α → List Value) (size : Nat) (hf : ∀ x, (f x).length = size) (d : α) : ∀ (l : List α) (i j : Nat), i < l.length → j < size → (l.flatMap f).getD (i * size + j) undef = (f (l.getD i d)).getD j undef
  | x :: l, 0, j, _, hj => by
    rw [List.flatMap_cons, Nat.zero_mul, Nat.zero_add, List.getD_eq_getElem?_getD, List.getElem?_append_left (by rw [hf]; exact hj), ← List.getD_eq_getElem?_getD]
    rfl
  | x :: l, i + 1, j, hi, hj => by
    rw [List.flatMap_cons, List.getD_eq_getElem?_getD, List.getElem?_append_right (by rw [hf, Nat.add_mul]; omega), hf, show (i + 1) * size + j - size = i * size + j by rw [Nat.add_mul]; omega, ← List.getD_eq_getElem?_getD, flat_getD f size hf d l i j (by simpa using hi) hj]
    rfl
theorem flat_len5 {α : Type} (f : α → List Value) (size : Nat) (hf : ∀ x, (f x).length = size) : ∀ (l : List α), (l.flatMap f).length = l.length * size
  | [] => by simp
  | x :: l => by rw [List.flatMap_cons, List.length_append, hf, flat_len5 f size hf l, List.length_cons, Nat.add_mul, Nat.one_mul, Nat.add_comm]
section
variable {w w' : World} {lo lo' : Nat} {v : Value} {rows : List BkR}
theorem OwnBl.nil (w : World) (lo : Nat) : OwnBl w lo (.slice none 0 0) [] := ⟨World.ownsRow_nil _ _ _ _, (fun r hr => by cases hr), fun i hi => absurd hi (Nat.not_lt_zero i), fun i i' hi => absurd hi (Nat.not_lt_zero i)⟩
theorem OwnBl.own (h : OwnBl w lo v rows) : ∃ A c, v = .slice A rows.length c ∧ MemOwn w lo A c rows := by
  obtain ⟨A, c, hv, hle, hcap, hnil, hc⟩ := ownsRow_form h.row (by omega)
  refine ⟨A, c, hv, ⟨⟨hle, hcap, hnil⟩, ⟨(hc.more (Nat.zero_le _) (Nat.le_refl _)).congr fun i hi j hj => ?_, h.ok⟩⟩, fun hn => ?_, h.val, h.apart⟩
  · rw [flat_getD BkR.cells5 5 (fun _ => rfl) default rows i j hi hj]
    match j, hj with
    | 0, _ => rfl
    | 1, _ => rfl
    | 2, _ => rfl
    | 3, _ => rfl
    | 4, _ => rfl
  · rcases h.row.2 with ⟨_, h0⟩ | ⟨g, cap, cur, hv2, hb, hh, _⟩
    · omega
    · rw [hv] at hv2
      injection hv2 with hv2 _ _
      exact ⟨g, hv2, hb, cur, hh⟩
theorem OwnBl.on (h : OwnBl w lo v rows) (hb : Below w.heap.size w w') : OwnBl w' lo v rows := by
  refine ⟨ownsRow_keep h.row hb, fun r hr => ((h.ok r hr).keep hb).more (Nat.le_refl _) hb.size, fun i hi hn => ?_, h.apart⟩
  obtain ⟨b, o, h1, h2, h3⟩ := h.val i hi hn
  exact ⟨b, o, h1, h2, h3.beneath hb⟩
theorem OwnBl.more (h : OwnBl w lo v rows) (hl : lo' ≤ lo) : OwnBl w lo' v rows := by
  refine ⟨ownsRow_more h.row hl, h.ok, fun i hi hn => ?_, h.apart⟩
  obtain ⟨b, o, h1, h2, h3⟩ := h.val i hi hn
  exact ⟨b, o, h1, by omega, h3⟩
/-- One row more, its list in a block that is newer than all. -/
theorem OwnBl.push {r : BkR} {W : World} (h : OwnBl W lo v rows) (hW : Below W.heap.size W w) {v' : Value} (hr : w'.ownsRow lo 70 5 v' (rows.length + 1) (rows.flatMap BkR.cells5 ++ r.cells5))
    (hg : w.grownBy w' v.ownBlock) (hok : r.Ok w 0 w.heap.size) (hfresh : 0 < r.cells.length → ∃ b o, r.ca = some ⟨b, o, none⟩ ∧ W.heap.size ≤ b ∧ TBlk w b 29) (hlo : lo ≤ W.heap.size) : OwnBl w' lo v' (rows ++ [r]) := by
  have hw := h.on hW
  have htb : ∀ b, TBlk w b 29 → TBlk w' b 29 ∧ v.ownBlock ≠ some b := fun b hb => by
    have hne : v.ownBlock ≠ some b := by
      intro e
      rcases hw.row.2 with ⟨rfl, _⟩ | ⟨g, cap, cur, rfl, _, hh, _⟩
      · simp [Value.ownBlock] at e
      · have e1 : g = b := by simpa [Value.ownBlock] using e
        subst e1
        exact TBlk.ne (t := 70) ⟨cur, hh⟩ hb (by decide) rfl
    have hl := hb.lt
    obtain ⟨cur, hb⟩ := hb
    exact ⟨⟨cur, (hg.block b hl (fun e => hne e.symm)).trans hb⟩, hne⟩
  have hvals : ∀ q : BkR, q.Ok w 0 w.heap.size → (0 < q.cells.length → ∃ b o, q.ca = some ⟨b, o, none⟩ ∧ TBlk w b 29) → q.Ok w' 0 w'.heap.size := fun q hq hb => by
    refine ⟨hq.hdr, fun hn => ?_⟩
    obtain ⟨b, o, e, h1, h2, hc⟩ := hq.vals hn
    obtain ⟨b2, o2, e2, hb2⟩ := hb hn
    rw [e] at e2
    injection e2 with e2
    injection e2 with e3 e4 _
    subst e3 e4
    obtain ⟨_, hne⟩ := htb b hb2
    refine ⟨b, o, e, h1, Nat.lt_of_lt_of_le h2 hg.size, fun i hi j hj => ?_⟩
    rw [World.cell?_of_block (hg.block b h2 (fun e => hne e.symm))]
    exact hc i hi j hj
  have hgetl : ∀ i, i < rows.length → (rows ++ [r]).getD i default = rows.getD i default := fun i hi => by
    rw [List.getD_eq_getElem?_getD, List.getElem?_append_left hi, List.getD_eq_getElem?_getD]
  have hgetr : (rows ++ [r]).getD rows.length default = r := by
    rw [List.getD_eq_getElem?_getD, List.getElem?_append_right (Nat.le_refl _)]; simp
  refine ⟨by rw [List.length_append, List.flatMap_append]; simpa using hr, fun q hq => ?_, fun i hi hn => ?_, ?_⟩
  · rcases List.mem_append.1 hq with hq | hq
    · refine hvals q (hw.ok q hq) fun hn => ?_
      obtain ⟨i, hi, rfl⟩ := mem_at (d := default) hq
      obtain ⟨b, o, h1, _, h3⟩ := hw.val i hi hn
      exact ⟨b, o, h1, h3⟩
    · obtain rfl := List.mem_singleton.1 hq
      refine hvals q hok fun hn => ?_
      obtain ⟨b, o, h1, _, h3⟩ := hfresh hn
      exact ⟨b, o, h1, h3⟩
  · rw [List.length_append] at hi
    by_cases hl : i < rows.length
    · rw [hgetl i hl] at hn ⊢
      obtain ⟨b, o, h1, h2, h3⟩ := hw.val i hl hn
      exact ⟨b, o, h1, h2, (htb b h3).1⟩
    · have e : i = rows.length := by simp at hi; omega
      subst e
      rw [hgetr] at hn ⊢
      obtain ⟨b, o, h1, h2, h3⟩ := hfresh hn
      exact ⟨b, o, h1, by omega, (htb b h3).1⟩
  · intro i i' hi hi' hne b o b' o' e e' hn hn'
    rw [List.length_append] at hi hi'
    by_cases hl : i < rows.length
    · by_cases hl' : i' < rows.length
      · rw [hgetl i hl] at e hn ⊢
        rw [hgetl i' hl'] at e' hn' ⊢
        exact h.apart i i' hl hl' hne b o b' o' e e' hn hn'
      · have e2 : i' = rows.length := by simp at hi'; omega
        subst e2
        rw [hgetl i hl] at e hn
        rw [hgetr] at e' hn'
        obtain ⟨b1, o1, h1, _, h3⟩ := h.val i hl hn
        obtain ⟨b2, o2, h4, h5, _⟩ := hfresh hn'
        rw [e] at h1
        rw [e'] at h4
        injection h1 with h1
        injection h1 with h1 _ _
        injection h4 with h4
        injection h4 with h4 _ _
        subst h1 h4
        have := h3.lt
        exact .inl (by omega)
    · have e2 : i = rows.length := by simp at hi; omega
      subst e2
      by_cases hl' : i' < rows.length
      · rw [hgetl i' hl'] at e' hn'
        rw [hgetr] at e hn
        obtain ⟨b1, o1, h1, _, h3⟩ := h.val i' hl' hn'
        obtain ⟨b2, o2, h4, h5, _⟩ := hfresh hn
        rw [e'] at h1
        rw [e] at h4
        injection h1 with h1
        injection h1 with h1 _ _
        injection h4 with h4
        injection h4 with h4 _ _
        subst h1 h4
        have := h3.lt
        exact .inl (by omega)
      · simp at hi'
        omega
end
end Go.Proofs.Ythddacnnhmcoaaa
