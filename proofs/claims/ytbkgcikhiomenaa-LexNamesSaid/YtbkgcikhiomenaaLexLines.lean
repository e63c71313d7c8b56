/-
  Lists of lists of texts: how they lie; append of one list.
-/
import Derived.Test.YtbkgcikhiomenaaLexData
namespace Go.Proofs.Ytbkgcikhiomenaa
set_option linter.unusedVariables false
set_option linter.unusedSimpArgs false
open Go.ChangeShapes Go.WideShapes Go.ChangeAt Go.RowKit

/-- A block of one type, none of it frozen. -/
def TBlk (w : World) (g : Nat) (t : TypeId) : Prop := ∃ cur : Array Value, w.heap[g]? = some (.cells cur t (0, 0))
theorem TBlk.beneath {w w' : World} {g : Nat} {t : TypeId} (h : TBlk w g t) (hb : Below w.heap.size w w') : TBlk w' g t := by
  obtain ⟨cur, h⟩ := h
  exact ⟨cur, (hb.block g (Array.getElem?_eq_some_iff.1 h).1).trans h⟩
structure LnR where
  a : Option Addr
  c : Nat
  xs : List ByteArray
deriving Inhabited
def LnR.cell (r : LnR) : Value := .slice r.a r.xs.length r.c
def LnR.data (r : LnR) : List Bs := r.xs.map toL
/-- A line that lies somewhere. -/
structure LnR.At (w : World) (r : LnR) : Prop where
  hdr : Hdr r.a r.xs.length r.c
  strs : StrsAt w 0 w.heap.size r.a r.xs
/-- A line that lies in a block of texts. -/
structure LnR.Ok (w : World) (r : LnR) : Prop where
  at_ : r.At w
  blk : 0 < r.xs.length → ∃ b o, r.a = some ⟨b, o, none⟩ ∧ TBlk w b 9
theorem LnR.At.on {w w' : World} {r : LnR} (h : r.At w) (hb : Below w.heap.size w w') : r.At w' := ⟨h.hdr, h.strs.on hb⟩
theorem LnR.Ok.on {w w' : World} {r : LnR} (h : r.Ok w) (hb : Below w.heap.size w w') : r.Ok w' := ⟨h.at_.on hb, fun hn => by
  obtain ⟨b, o, e, ht⟩ := h.blk hn
  exact ⟨b, o, e, ht.beneath hb⟩⟩
theorem OwnStrs.row {w : World} {lo : Nat} {v : Value} {xs : List ByteArray} (h : OwnStrs w lo v xs) : ∃ r : LnR, v = r.cell ∧ r.xs = xs ∧ r.Ok w := by
  obtain ⟨A, c, hv, hh, hs⟩ := h.full
  refine ⟨⟨A, c, xs⟩, hv, rfl, ⟨hh, hs⟩, fun hn => ?_⟩
  rcases h.2 with ⟨_, h0⟩ | ⟨g, cap, cur, hv2, _, hg, _⟩
  · have : 0 < xs.length := hn
    omega
  · rw [hv] at hv2
    injection hv2 with hv2 _ _
    exact ⟨g, 0, hv2, cur, hg⟩
/-- Lines that came in, or that the call owns: how they are read. -/
structure LinesAt (w : World) (A : Option Addr) (c : Nat) (rows : List LnR) : Prop where
  hdr : Hdr A rows.length c
  cells : CellsAt w 0 w.heap.size A 1 rows.length fun i _ => (rows.getD i default).cell
  rows : ∀ r ∈ rows, r.At w
theorem LinesAt.on {w w' : World} {A : Option Addr} {c : Nat} {rows : List LnR} (h : LinesAt w A c rows) (hb : Below w.heap.size w w') : LinesAt w' A c rows :=
  ⟨h.hdr, (CellsAt.keep h.cells hb).more (Nat.le_refl _) hb.size, fun r hr => (h.rows r hr).on hb⟩
theorem LinesAt.elem {w : World} {A : Option Addr} {c : Nat} {rows : List LnR} (h : LinesAt w A c rows) {i : Nat} (hi : i < rows.length) : ∃ b off r, A = some ⟨b, off, none⟩ ∧ b < w.heap.size ∧ w.cell? ⟨b, off + i, none⟩ = some (.slice r.a r.xs.length r.c) ∧ LnR.At w r ∧ Hid (rows.getD i default = r) := by
  obtain ⟨b, off, rfl, h1, h2, hc⟩ := h.cells (by omega)
  have c0 := hc i hi 0 (by omega)
  rw [Nat.mul_one, Nat.add_zero] at c0
  have hm : rows.getD i default ∈ rows := by rw [List.getD_eq_getElem?_getD, List.getElem?_eq_getElem hi]; exact List.getElem_mem hi
  exact ⟨b, off, _, rfl, World.block_lt_of_cell? w _ c0, c0, h.rows _ hm, Lib.hid rfl⟩
/-- Lines of the call's own. -/
structure OwnLines (w : World) (lo : Nat) (v : Value) (rows : List LnR) : Prop where
  row : w.ownsRow lo 39 1 v rows.length (rows.map LnR.cell)
  ok : ∀ r ∈ rows, r.Ok w
section
variable {w w' : World} {lo lo' : Nat} {v : Value} {rows : List LnR}
theorem OwnLines.nil (w : World) (lo : Nat) : OwnLines w lo (.slice none 0 0) [] := ⟨World.ownsRow_nil _ _ _ _, fun r hr => by cases hr⟩
theorem OwnLines.keep (h : OwnLines w lo v rows) (hb : Below w.heap.size w w') : OwnLines w' lo v rows := ⟨ownsRow_keep h.row hb, fun r hr => (h.ok r hr).on hb⟩
theorem OwnLines.more (h : OwnLines w lo v rows) (hl : lo' ≤ lo) : OwnLines w lo' v rows := ⟨ownsRow_more h.row hl, h.ok⟩
theorem OwnLines.full (h : OwnLines w lo v rows) : ∃ A c, v = .slice A rows.length c ∧ LinesAt w A c rows := by
  obtain ⟨A, c, hv, hle, hcap, hnil, hc⟩ := ownsRow_form h.row (by omega)
  refine ⟨A, c, hv, ⟨hle, hcap, hnil⟩, (hc.more (Nat.zero_le _) (Nat.le_refl _)).congr fun i hi j hj => ?_, fun r hr => (h.ok r hr).at_⟩
  obtain rfl : j = 0 := by omega
  simp [List.getD, List.getElem?_eq_getElem hi]
end
theorem linesInfo : (Try.prog.info? 39).map (fun i => (i.zero, i.size, i.bytes)) = some (some (.slice none 0 0), 1, 24) := by kernel_rfl
set_option maxRecDepth 100000 in
/-- append of one list that has just been laid in a block of its own. -/
theorem wpList_appL {w : World} {ops : Array Oper} {rest : List Oper} {o : Oper} {a : Act} {Q : Exit → Act → World → Prop} (hgd : o.guard = none) (s x : Operand)
    (ho : o.op = .call { callee := .builtin .append, args := #[s, x], argTypes := #[22, 22] })
    (lo : Nat) (v : Value) (rows : List LnR) (hs : a.eval s = v) (r : LnR) (hown : OwnLines w lo v rows) (hr : r.Ok w) (hx : a.eval x = .slice (some ⟨w.heap.size, 0, none⟩) 1 1) (hlen : rows.length ≤ 1000000) (hlo : lo ≤ w.heap.size)
    (h : ∀ v' w', OwnLines w' lo v' (rows ++ [r]) → (w.alloc (.cells #[.slice r.a r.xs.length r.c] 39)).grownBy w' v.ownBlock → wpList Try.prog ops Q rest (a.put o.dst v') w') : wpList Try.prog ops Q (o :: rest) a (w.alloc (.cells #[.slice r.a r.xs.length r.c] 39)) := by
  obtain ⟨i0, hi, hz0, hz1, hz2⟩ := info_parts linesInfo
  refine wpList_appS hgd s x 22 39 ho i0 _ 1 24 Try.underlying22 hi hz0 hz1 hz2 rfl (by decide) lo v rows.length _ hs hown.row _ hx rfl ?_ hlen (by decide) hlo ?_
  · intro u hu
    simp at hu
    subst hu
    rfl
  · intro v' w' h1 h2
    have hb : Below w.heap.size w (w.alloc (.cells #[.slice r.a r.xs.length r.c] 39)) := (Below.refl _ _).alloc (Nat.le_refl _) _
    have ok2 : ∀ q : LnR, q.Ok w → q.Ok w' := fun q hq => by
      have hq2 := hq.on hb
      have hk : ∀ b, TBlk (w.alloc (.cells #[.slice r.a r.xs.length r.c] 39)) b 9 → b < (w.alloc (.cells #[.slice r.a r.xs.length r.c] 39)).heap.size ∧ w'.heap[b]? = (w.alloc (.cells #[.slice r.a r.xs.length r.c] 39)).heap[b]? := fun b ht => by
        obtain ⟨cur, ht⟩ := ht
        have hl := (Array.getElem?_eq_some_iff.1 ht).1
        refine ⟨hl, h2.block b hl fun e => ?_⟩
        rcases (World.ownsRow.alloc hown.row _).2 with ⟨hv, _⟩ | ⟨g, cap, cur2, hv, _, hg, _⟩
        · rw [hv] at e; cases e
        · rw [hv] at e
          have e2 : b = g := Option.some.inj e
          subst e2
          rw [hg] at ht
          injection ht with ht
          injection ht with _ ht _
          exact absurd ht (by decide)
      refine ⟨⟨hq2.at_.hdr, fun hn => ?_⟩, fun hn => ?_⟩
      · obtain ⟨b, off, e, l1, l2, hc⟩ := hq2.at_.strs hn
        obtain ⟨b', o', e', ht⟩ := hq2.blk hn
        rw [e] at e'
        injection e' with e'
        injection e' with e' _ _
        subst e'
        obtain ⟨k1, k2⟩ := hk b ht
        exact ⟨b, off, e, l1, Nat.lt_of_lt_of_le l2 h2.size, fun i hi j hj => by rw [World.cell?_of_block k2]; exact hc i hi j hj⟩
      · obtain ⟨b, o, e, ht⟩ := hq2.blk hn
        obtain ⟨k1, k2⟩ := hk b ht
        obtain ⟨cur, ht⟩ := ht
        exact ⟨b, o, e, cur, k2.trans ht⟩
    refine h v' w' ⟨?_, fun q hq => ?_⟩ h2
    · rw [List.length_append, List.map_append]
      exact h1
    · rcases List.mem_append.1 hq with hq | hq
      · exact ok2 q (hown.ok q hq)
      · rw [List.mem_singleton.1 hq]; exact ok2 r hr
/-- What Lines answers. -/
def LinesOut (o : Option (List (List Bs))) (w : World) (e : Ending) (w' : World) : Prop :=
  match o with
  | none => e = .returned (.tuple #[.slice none 0 0, .int .i64 4]) ∧ Below w.heap.size w w'
  | some m => ∃ v rows, e = .returned (.tuple #[v, .int .i64 0]) ∧ OwnLines w' w.heap.size v rows ∧ rows.map LnR.data = m ∧ Below w.heap.size w w'
/-- A text's lines: none, if there is too much of it. -/
def linesP (s : Bs) : Option (List (List Bs)) := if 16384 < s.length then none else outR s [] []
theorem outR_start (s : Bs) : outR s [] [] = if ((cutB 10 s).map wordsR).any (fun l => decide (64 < l.length)) then none else some (((cutB 10 s).map wordsR).filter fun l => !l.isEmpty) := by
  have h : (cutB 10 s).map wordsR = ([] ++ wordsR ((cutB 10 s).headD [])) :: ((cutB 10 s).drop 1).map wordsR := by
    rw [List.nil_append]
    conv => lhs; rw [cut_head 10 s]
    rfl
  rw [h]
  rfl
end Go.Proofs.Ytbkgcikhiomenaa
