/-
  A memory of the call's own, and one block more: the block's list is older than the memory's.
-/
import Derived.Test.YthddacnnhmcoaaaMmNew1
import Derived.Deep.AppendLies
namespace Go.Proofs.Ythddacnnhmcoaaa
set_option linter.unusedVariables false
set_option linter.unusedSimpArgs false
open Go.ChangeShapes Go.WideShapes Go.ChangeAt Go.RowKit

/-- As it was from lo on. -/
structure Kept (lo : Nat) (w w' : World) : Prop where
  size : w.heap.size ≤ w'.heap.size
  block : ∀ k, lo ≤ k → k < w.heap.size → w'.heap[k]? = w.heap[k]?
section
variable {w w' : World} {lo lo' H : Nat} {v : Value} {rows : List BkR}
theorem Kept.refl (lo : Nat) (w : World) : Kept lo w w := ⟨Nat.le_refl _, fun _ _ _ => rfl⟩
theorem Kept.drew (h : Kept lo w w') : Kept lo w w'.drew := ⟨h.size, h.block⟩
theorem Kept.alloc (h : Kept lo w w') (o : Obj) : Kept lo w (w'.alloc o) :=
  ⟨by rw [World.size_alloc]; have := h.size; omega, fun k h1 h2 => (Below.heap_alloc w' o k (Nat.lt_of_lt_of_le h2 h.size)).trans (h.block k h1 h2)⟩
theorem Kept.put (h : Kept lo w w') {p : Addr} (hp : p.block < lo) (u : Value) : Kept lo w (w'.setCell p u) :=
  ⟨by rw [size_set]; exact h.size, fun k h1 h2 => (Below.heap_setCell w' p u k (by omega)).trans (h.block k h1 h2)⟩
theorem Kept.tblk (h : Kept lo w w') {b : Nat} {t : TypeId} (hb : TBlk w b t) (hl : lo ≤ b) : TBlk w' b t := by
  have hlt := hb.lt
  obtain ⟨cur, hb⟩ := hb
  exact ⟨cur, (h.block b hl hlt).trans hb⟩
/-- The blocks that a memory stands in. -/
def Stands (v : Value) (rows : List BkR) (k : Nat) : Prop := v.ownBlock = some k ∨ ∃ r ∈ rows, 0 < r.cells.length ∧ ∃ o, r.ca = some ⟨k, o, none⟩
theorem OwnBl.base (h : OwnBl w lo v rows) : ∀ k, Stands v rows k → lo ≤ k := by
  rintro k (e | ⟨r, hr, hn, o, e⟩)
  · exact own_base h.row k e
  · obtain ⟨i, hi, rfl⟩ := mem_at (d := default) hr
    obtain ⟨b, o', e', h1, _⟩ := h.val i hi hn
    rw [e] at e'
    injection e' with e'
    injection e' with e' _ _
    subst e'
    exact h1
theorem OwnBl.still (h : OwnBl w lo v rows) (hs : w.heap.size ≤ w'.heap.size) (hk : ∀ k, Stands v rows k → k < w.heap.size → w'.heap[k]? = w.heap[k]?) : OwnBl w' lo v rows := by
  have hval : ∀ i, i < rows.length → 0 < (rows.getD i default).cells.length → ∃ b o, (rows.getD i default).ca = some ⟨b, o, none⟩ ∧ lo ≤ b ∧ b < w.heap.size ∧ w'.heap[b]? = w.heap[b]? ∧ TBlk w' b 29 := fun i hi hn => by
    obtain ⟨b, o, e, h1, h2⟩ := h.val i hi hn
    have hlt := h2.lt
    have hb := hk b (.inr ⟨_, mem_getD (d := default) hi, hn, o, e⟩) hlt
    obtain ⟨cur, h2⟩ := h2
    exact ⟨b, o, e, h1, hlt, hb, cur, hb.trans h2⟩
  refine ⟨⟨h.row.1, ?_⟩, fun r hr => ⟨(h.ok r hr).hdr, fun hn => ?_⟩, fun i hi hn => ?_, h.apart⟩
  · rcases h.row.2 with h1 | ⟨g, cap, cur, h1, h2, h3, h4⟩
    · exact .inl h1
    · exact .inr ⟨g, cap, cur, h1, h2, (hk g (.inl (by rw [h1]; rfl)) (Array.getElem?_eq_some_iff.1 h3).1).trans h3, h4⟩
  · obtain ⟨b, o, e, h1, h2, hc⟩ := (h.ok r hr).vals hn
    obtain ⟨i, hi, hri⟩ := mem_at (d := default) hr
    obtain ⟨b', o', e', _, h3, h4, _⟩ := hval i hi (by rw [hri]; exact hn)
    rw [hri, e] at e'
    injection e' with e'
    injection e' with e' _ _
    subst e'
    exact ⟨b, o, e, h1, Nat.lt_of_lt_of_le h2 hs, fun i hi j hj => by rw [World.cell?_of_block h4]; exact hc i hi j hj⟩
  · obtain ⟨b, o, e, h1, _, _, h5⟩ := hval i hi hn
    exact ⟨b, o, e, h1, h5⟩
theorem OwnBl.kept (h : OwnBl w lo v rows) (hk : Kept lo w w') : OwnBl w' lo v rows := h.still hk.size fun k hs hl => hk.block k (h.base k hs) hl
theorem OwnBl.off (h : OwnBl w lo v rows) {p : Addr} (hne : ¬ Stands v rows p.block) (u : Value) : OwnBl (w.setCell p u) lo v rows :=
  h.still (by rw [size_set]; exact Nat.le_refl _) fun k hs _ => Below.heap_setCell w p u k (fun e => hne (e ▸ hs))
/-- One block more; its list lies below H, the memory's blocks from H on. -/
theorem OwnBl.push2 {r : BkR} (h : OwnBl w H v rows) (hH : lo ≤ H) {v' : Value} (hr : w'.ownsRow lo 70 5 v' (rows.length + 1) (rows.flatMap BkR.cells5 ++ r.cells5))
    (hg : w.grownBy w' v.ownBlock) (hok : r.Ok w 0 w.heap.size) (hold : 0 < r.cells.length → ∃ b o, r.ca = some ⟨b, o, none⟩ ∧ lo ≤ b ∧ b < H ∧ TBlk w b 29) : OwnBl w' lo v' (rows ++ [r]) := by
  have htb : ∀ b, TBlk w b 29 → TBlk w' b 29 ∧ v.ownBlock ≠ some b := fun b hb => by
    have hne : v.ownBlock ≠ some b := by
      intro e
      rcases h.row.2 with ⟨rfl, _⟩ | ⟨g, cap, cur, rfl, _, hh, _⟩
      · simp [Value.ownBlock] at e
      · have e1 : g = b := by simpa [Value.ownBlock] using e
        subst e1
        exact TBlk.ne (t := 70) ⟨cur, hh⟩ hb (by decide) rfl
    have hl := hb.lt
    obtain ⟨cur, hb⟩ := hb
    exact ⟨⟨cur, (hg.block b hl (fun e => hne e.symm)).trans hb⟩, hne⟩
  have hvals : ∀ q : BkR, q.Ok w 0 w.heap.size → (0 < q.cells.length → ∃ b o, q.ca = some ⟨b, o, none⟩ ∧ TBlk w b 29) → q.Ok w' 0 w'.heap.size := fun q hq hb => by
    refine ⟨hq.hdr, fun hn => ?_⟩
    obtain ⟨b, o, e, h1, h2, hc⟩ := hq.vals hn
    obtain ⟨b2, o2, e2, hb2⟩ := hb hn
    rw [e] at e2
    injection e2 with e2
    injection e2 with e3 e4 _
    subst e3 e4
    obtain ⟨_, hne⟩ := htb b hb2
    refine ⟨b, o, e, h1, Nat.lt_of_lt_of_le h2 hg.size, fun i hi j hj => ?_⟩
    rw [World.cell?_of_block (hg.block b h2 (fun e => hne e.symm))]
    exact hc i hi j hj
  have hgetl : ∀ i, i < rows.length → (rows ++ [r]).getD i default = rows.getD i default := fun i hi => by
    rw [List.getD_eq_getElem?_getD, List.getElem?_append_left hi, List.getD_eq_getElem?_getD]
  have hgetr : (rows ++ [r]).getD rows.length default = r := by
    rw [List.getD_eq_getElem?_getD, List.getElem?_append_right (Nat.le_refl _)]; simp
  have hapart : ∀ i, i < rows.length → ∀ b o b' o', (rows.getD i default).ca = some ⟨b, o, none⟩ → r.ca = some ⟨b', o', none⟩ → 0 < (rows.getD i default).cells.length → 0 < r.cells.length → b ≠ b' := fun i hi b o b' o' e e' hn hn' => by
    obtain ⟨b1, o1, h1, h2, _⟩ := h.val i hi hn
    obtain ⟨b2, o2, h4, _, h5, _⟩ := hold hn'
    rw [e] at h1
    rw [e'] at h4
    injection h1 with h1
    injection h1 with h1 _ _
    injection h4 with h4
    injection h4 with h4 _ _
    subst h1 h4
    omega
  refine ⟨by rw [List.length_append, List.flatMap_append]; simpa using hr, fun q hq => ?_, fun i hi hn => ?_, ?_⟩
  · rcases List.mem_append.1 hq with hq | hq
    · refine hvals q (h.ok q hq) fun hn => ?_
      obtain ⟨i, hi, rfl⟩ := mem_at (d := default) hq
      obtain ⟨b, o, h1, _, h3⟩ := h.val i hi hn
      exact ⟨b, o, h1, h3⟩
    · obtain rfl := List.mem_singleton.1 hq
      refine hvals q hok fun hn => ?_
      obtain ⟨b, o, h1, _, _, h3⟩ := hold hn
      exact ⟨b, o, h1, h3⟩
  · rw [List.length_append] at hi
    by_cases hl : i < rows.length
    · rw [hgetl i hl] at hn ⊢
      obtain ⟨b, o, h1, h2, h3⟩ := h.val i hl hn
      exact ⟨b, o, h1, by omega, (htb b h3).1⟩
    · have e : i = rows.length := by simp at hi; omega
      subst e
      rw [hgetr] at hn ⊢
      obtain ⟨b, o, h1, h2, _, h3⟩ := hold hn
      exact ⟨b, o, h1, h2, (htb b h3).1⟩
  · intro i i' hi hi' hne b o b' o' e e' hn hn'
    rw [List.length_append] at hi hi'
    by_cases hl : i < rows.length
    · by_cases hl' : i' < rows.length
      · rw [hgetl i hl] at e hn ⊢
        rw [hgetl i' hl'] at e' hn' ⊢
        exact h.apart i i' hl hl' hne b o b' o' e e' hn hn'
      · have e2 : i' = rows.length := by simp at hi'; omega
        subst e2
        rw [hgetl i hl] at e hn
        rw [hgetr] at e' hn'
        exact .inl (hapart i hl b o b' o' e e' hn hn')
    · have e2 : i = rows.length := by simp at hi; omega
      subst e2
      by_cases hl' : i' < rows.length
      · rw [hgetl i' hl'] at e' hn'
        rw [hgetr] at e hn
        exact .inl (fun e3 => hapart i' hl' b' o' b o e' e hn' hn e3.symm)
      · simp at hi'
        omega
end
theorem Blk.newAt {w : World} {g : Nat} (h : g = w.heap.size) (t : TypeId) (cs : Array Value) : Blk (w.alloc (.cells cs t)) g t cs := by subst h; exact Blk.new w t cs
theorem Blk.ofEq {w w' : World} {g : Nat} {t : TypeId} {cs : Array Value} (e : w'.heap[g]? = w.heap[g]?) (h : Blk w g t cs) : Blk w' g t cs := e.trans h
/-- The append of a block, as one step of a region that draws its order. -/
theorem step_appBlk {w : World} {ops : Array Oper} {o : Oper} {a : Act} {K : Act → World → Prop} {Q : Exit → Act → World → Prop} {E : Prop} (hgd : o.guard = none) (s x : Operand)
    (ho : o.op = .call { callee := .builtin .append, args := #[s, x], argTypes := #[22, 22] })
    (w0 w1 : World) (lo H : Nat) (v : Value) (rows : List BkR) (r : BkR) (hs : a.eval s = v) (hown : OwnBl w1 H v rows) (hk : Kept H w1 w) (hb : Below w0.heap.size w0 w) (B : Nat) (hx : a.eval x = .slice (some ⟨B, 0, none⟩) 1 1)
    (hB : Blk w B 70 #[.int .i64 r.site, .int .i64 r.type, .int .i64 r.depth, .bool r.alive, .slice r.ca r.cells.length r.cc])
    (hr : r.Ok w0 0 w0.heap.size) (hold : 0 < r.cells.length → ∃ b o, r.ca = some ⟨b, o, none⟩ ∧ lo ≤ b ∧ TBlk w0 b 29) (hlo : lo ≤ w0.heap.size) (hH : w0.heap.size ≤ H) (hH1 : H ≤ w1.heap.size) (hlen : rows.length ≤ 1000000)
    (h : ∀ v' w', OwnBl w' lo v' (rows ++ [r]) → w.grownBy w' v.ownBlock → (∀ k, v.ownBlock = some k → H ≤ k) → (∀ k, Stands v' (rows ++ [r]) k → H ≤ k ∨ k < w0.heap.size) → K (a.put o.dst v') w') :
    if Region.wanted o (yielded ops a.tmps) = true then Oper.wp Try.prog o a w K Q else E := by
  obtain ⟨i0, hi, hz0, hz1, hz2⟩ := info_parts blkInfo
  have hw := hown.kept hk
  have hsz : H ≤ w.heap.size := Nat.le_trans hH1 hk.size
  refine step_append_lies (P := Try.prog) w hgd s x 22 ho lo 70 i0 _ 5 56 Try.underlying22 hi hz0 hz1 hz2 rfl (by decide) v rows.length _ hs (ownsRow_more hw.row (by omega)) ⟨B, 0, none⟩ 1 1 r.cells5 hx rfl (World.news_of_block hB) ?_ (by omega) ?_ ?_ (by omega) _ rfl ?_
  · intro u hu
    simp only [BkR.cells5, List.mem_cons, List.not_mem_nil, or_false] at hu
    rcases hu with rfl | rfl | rfl | rfl | rfl <;> rfl
  · unfold maxLen; omega
  · omega
  · intro g cap w2 h1 h2 h3 h4
    refine h _ w2 (OwnBl.push2 hw (by omega) h1 h2 ((hr.keep hb).more (Nat.le_refl _) hb.size) fun hn => ?_) h2 (own_base hw.row) ?_
    · obtain ⟨b, o, e1, e2, e3⟩ := hold hn
      exact ⟨b, o, e1, e2, Nat.lt_of_lt_of_le e3.lt hH, e3.beneath hb⟩
    · rintro k (e | ⟨q, hq, hn, o, e⟩)
      · have e1 : g = k := Option.some.inj e
        subst e1
        rcases h3 with h3 | h3
        · exact .inl (own_base hw.row _ h3)
        · subst h3; exact .inl hsz
      · rcases List.mem_append.1 hq with hq | hq
        · exact .inl (hw.base k (.inr ⟨q, hq, hn, o, e⟩))
        · obtain rfl := List.mem_singleton.1 hq
          obtain ⟨b, o', e1, _, e3⟩ := hold hn
          rw [e] at e1
          injection e1 with e1
          injection e1 with e1 _ _
          subst e1
          exact .inr e3.lt
end Go.Proofs.Ythddacnnhmcoaaa
