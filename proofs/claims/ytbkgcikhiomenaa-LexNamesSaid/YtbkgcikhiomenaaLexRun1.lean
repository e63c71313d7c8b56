/-
  The program's reader of lines: what holds while it runs.
-/
import Derived.Test.YtbkgcikhiomenaaLexScope
import Derived.Test.YtbkgcikhiomenaaLexRef1
namespace Go.Proofs.Ytbkgcikhiomenaa
set_option linter.unusedVariables false
set_option linter.unusedSimpArgs false
open Go.ChangeShapes Go.WideShapes Go.ChangeAt Go.RowKit

/-- A line that lies beneath a bound. -/
def LnR.Under (m : Nat) (r : LnR) : Prop := ∀ b o, 0 < r.xs.length → r.a = some ⟨b, o, none⟩ → b < m
theorem LnR.Ok.under {w : World} {r : LnR} (h : r.Ok w) : r.Under w.heap.size := by
  intro b o hn e
  obtain ⟨b', o', e', cur, ht⟩ := h.blk hn
  rw [e] at e'
  injection e' with e'
  injection e' with e' _ _
  subst e'
  exact (Array.getElem?_eq_some_iff.1 ht).1
theorem LnR.Ok.stays {w w' : World} {m : Nat} {r : LnR} (h : r.Ok w) (hu : r.Under m) (hs : w.heap.size ≤ w'.heap.size) (hk : ∀ b, b < m → TBlk w b 9 → w'.heap[b]? = w.heap[b]?) : r.Ok w' := by
  refine ⟨⟨h.at_.hdr, fun hn => ?_⟩, fun hn => ?_⟩
  · obtain ⟨b, off, e, l1, l2, hc⟩ := h.at_.strs hn
    obtain ⟨b', o', e', ht⟩ := h.blk hn
    have hb := hu b off hn e
    rw [e] at e'
    injection e' with e'
    injection e' with e' _ _
    subst e'
    exact ⟨b, off, e, l1, Nat.lt_of_lt_of_le l2 hs, fun i hi j hj => by rw [World.cell?_of_block (hk b hb ht)]; exact hc i hi j hj⟩
  · obtain ⟨b, o, e, ht⟩ := h.blk hn
    have h1 := hk b (hu b o hn e) ht
    obtain ⟨cur, ht⟩ := ht
    exact ⟨b, o, e, cur, h1.trans ht⟩
theorem OwnLines.stays {w w' : World} {lo m : Nat} {v : Value} {rows : List LnR} (h : OwnLines w lo v rows) (hu : ∀ r ∈ rows, r.Under m) (hs : w.heap.size ≤ w'.heap.size) (hk : ∀ b, (b < m ∧ TBlk w b 9 ∨ TBlk w b 39) → w'.heap[b]? = w.heap[b]?) : OwnLines w' lo v rows := by
  refine ⟨⟨h.row.1, ?_⟩, fun r hr => (h.ok r hr).stays (hu r hr) hs fun b hb ht => hk b (.inl ⟨hb, ht⟩)⟩
  rcases h.row.2 with h1 | ⟨g, cap, cur, h1, h2, h3, h4⟩
  · exact .inl h1
  · exact .inr ⟨g, cap, cur, h1, h2, (hk g (.inr ⟨cur, h3⟩)).trans h3, h4⟩
theorem OwnStrs.off {w : World} {lo : Nat} {v : Value} {xs : List ByteArray} (h : OwnStrs w lo v xs) {p : Addr} {t : TypeId} (hp : TBlk w p.block t) (h1 : t ≠ 9) (u : Value) : OwnStrs (w.setCell p u) lo v xs := by
  refine ⟨h.1, ?_⟩
  rcases h.2 with h2 | ⟨g, cap, cur, h2, h3, h4, h5⟩
  · exact .inl h2
  · refine .inr ⟨g, cap, cur, h2, h3, (Below.heap_setCell w p u g ?_).trans h4, h5⟩
    rintro rfl
    exact h1 (hp.type ⟨_, h4⟩)
set_option maxRecDepth 100000 in
/-- The append of a text, as one step of a region that draws its order. -/
theorem step_appT {w : World} {ops : Array Oper} {o : Oper} {a : Act} {K : Act → World → Prop} {Q : Exit → Act → World → Prop} {E : Prop} (hgd : o.guard = none) (s x : Operand)
    (ho : o.op = .call { callee := .builtin .append, args := #[s, x], argTypes := #[39, 39] })
    (lo : Nat) (v : Value) (xs : List ByteArray) (y : ByteArray) (hs : a.eval s = v) (hown : OwnStrs w lo v xs) (B : Nat) (hx : a.eval x = .slice (some ⟨B, 0, none⟩) 1 1)
    (hB : w.heap[B]? = some (.cells #[.string y] 9 (0, 0))) (hlen : xs.length ≤ 1000000) (hlo : lo ≤ w.heap.size)
    (h : ∀ v' w', OwnStrs w' lo v' (xs ++ [y]) → w.grownBy w' v.ownBlock → K (a.put o.dst v') w') :
    if Region.wanted o (yielded ops a.tmps) = true then Oper.wp Try.prog o a w K Q else E := by
  obtain ⟨i0, hi, hz0, hz1, hz2⟩ := info_parts strInfo
  refine step_append_lies (P := Try.prog) w hgd s x 39 ho lo 9 i0 _ 1 16 Try.underlying39 hi hz0 hz1 hz2 rfl (by decide) v xs.length _ hs hown ⟨B, 0, none⟩ 1 1 [.string y] hx rfl (World.news_of_block hB) ?_ (by omega) ?_ ?_ hlo _ rfl ?_
  · intro u hu
    obtain rfl := List.mem_singleton.1 hu
    rfl
  · unfold maxLen; omega
  · omega
  · intro g cap w2 h1 h2 h3 h4
    refine h _ w2 ?_ h2
    unfold OwnStrs
    rw [List.length_append, List.map_append]
    exact h1
/-- The reader at a place: its words and lines. -/
structure St (w0 : World) (g lo m : Nat) (s : ByteArray) (p : Nat) (ws ls : Value) (xs : List ByteArray) (rows : List LnR) (w : World) : Prop where
  rd : Rd w g s p ws ls
  words : OwnStrs w m ws xs
  lines : OwnLines w lo ls rows
  under : ∀ r ∈ rows, r.Under m
  lom : lo ≤ m
  big : m ≤ w.heap.size
  glo : lo ≤ g
  xsl : xs.length ≤ p
  rowl : rows.length ≤ p
  below : Below lo w0 w
section
variable {w0 w w' : World} {g lo m : Nat} {s : ByteArray} {p : Nat} {ws ls : Value} {xs : List ByteArray} {rows : List LnR}
theorem St.on (h : St w0 g lo m s p ws ls xs rows w) (hb : Below w.heap.size w w') : St w0 g lo m s p ws ls xs rows w' :=
  ⟨h.rd.on (hb.block g h.rd.lt), h.words.keep hb, h.lines.keep hb, h.under, h.lom, Nat.le_trans h.big hb.size, h.glo, h.xsl, h.rowl, h.below.trans (hb.mono (Nat.le_trans h.lom h.big))⟩
theorem St.step (h : St w0 g lo m s p ws ls xs rows w) : St w0 g lo m s (p + 1) ws ls xs rows (w.setCell ⟨g, 1, none⟩ (.int .i64 ((p + 1 : Nat) : Int))) :=
  ⟨h.rd.setPlace (p + 1), h.words.off (p := ⟨g, 1, none⟩) h.rd.blk (by decide) _, h.lines.off (p := ⟨g, 1, none⟩) h.rd.blk (by decide) (by decide) _, h.under, h.lom, by have := h.big; simpa [World.setCell] using this, h.glo, Nat.le_succ_of_le h.xsl, Nat.le_succ_of_le h.rowl, h.below.setCell h.glo _⟩
/-- A line is ended. -/
theorem St.ended (h : St w0 g lo m s p ws ls xs rows w) {ls' : Value} {rows' : List LnR} (hr : Rd w' g s p (.slice none 0 0) ls') (ho : OwnLines w' lo ls' rows') (hl : rows'.length ≤ rows.length + 1) (hb : Below lo w w') : St w0 g lo w'.heap.size s (p + 1) (.slice none 0 0) ls' [] rows' (w'.setCell ⟨g, 1, none⟩ (.int .i64 ((p + 1 : Nat) : Int))) :=
  ⟨hr.setPlace (p + 1), OwnStrs.nil _ _, ho.off (p := ⟨g, 1, none⟩) hr.blk (by decide) (by decide) _, fun r hrr => (ho.ok r hrr).under, Nat.le_trans (Nat.le_trans h.lom h.big) hb.size, by simp [World.setCell], h.glo, Nat.zero_le _, by have := h.rowl; omega, (h.below.trans hb).setCell h.glo _⟩
theorem St.drewN (h : St w0 g lo m s p ws ls xs rows w) (n : Nat) : St w0 g lo m s p ws ls xs rows (w.drewN n) := h.on (belowDrewN (Below.refl _ _) n)
/-- The reader's block stays, when its words grow. -/
theorem St.kept (h : St w0 g lo m s p ws ls xs rows w) (hg : w.grownBy w' ws.ownBlock) : Rd w' g s p ws ls :=
  h.rd.on (hg.block g h.rd.lt fun e => by
    rcases h.words.2 with ⟨hv, _⟩ | ⟨q, cap, cur, hv, _, hq, _⟩
    · rw [hv] at e; cases e
    · rw [hv] at e
      obtain rfl : g = q := Option.some.inj e
      exact absurd (TBlk.type ⟨_, hq⟩ h.rd.blk) (by decide))
/-- A word is put behind the words. -/
theorem St.word (h : St w0 g lo m s p ws ls xs rows w) (hxp : xs.length < p) {ws' : Value} {y : ByteArray} (ho : OwnStrs w' m ws' (xs ++ [y])) (hg : w.grownBy w' ws.ownBlock) : St w0 g lo m s p ws' ls (xs ++ [y]) rows (w'.setCell ⟨g, 66, none⟩ ws') := by
  have hne : ∀ k, ws.ownBlock = some k → m ≤ k ∧ TBlk w k 9 := by
    intro k e
    refine ⟨h.words.base k e, ?_⟩
    rcases h.words.2 with ⟨hv, _⟩ | ⟨q, cap, cur, hv, _, hq, _⟩
    · rw [hv] at e; cases e
    · rw [hv] at e
      obtain rfl : q = k := Option.some.inj e
      exact ⟨_, hq⟩
  have hrd : Rd w' g s p ws ls := h.rd.on (hg.block g h.rd.lt fun e => absurd ((hne g e.symm).2.type h.rd.blk) (by decide))
  have hln : OwnLines w' lo ls rows := h.lines.stays h.under hg.size fun b hb => by
    have hlt : b < w.heap.size := by
      rcases hb with ⟨_, cur, ht⟩ | ⟨cur, ht⟩
      · exact (Array.getElem?_eq_some_iff.1 ht).1
      · exact (Array.getElem?_eq_some_iff.1 ht).1
    refine hg.block b hlt fun e => ?_
    obtain ⟨h1, h2⟩ := hne b e.symm
    rcases hb with ⟨hb, _⟩ | hb
    · omega
    · exact absurd (h2.type hb) (by decide)
  have hbl : Below lo w w' := by
    refine Below.grown (B := lo) (a := w) (Below.refl _ _) hg (Nat.le_trans h.lom h.big) fun k e => Nat.le_trans h.lom (hne k e).1
  refine ⟨hrd.setWords ws', ho.off (p := ⟨g, 66, none⟩) hrd.blk (by decide) _, hln.off (p := ⟨g, 66, none⟩) hrd.blk (by decide) (by decide) _, h.under, h.lom, ?_, h.glo, ?_, h.rowl, (h.below.trans hbl).setCell h.glo _⟩
  · have := Nat.le_trans h.big hg.size
    simpa [World.setCell] using this
  · rw [List.length_append]
    show xs.length + 1 ≤ p
    omega
end
end Go.Proofs.Ytbkgcikhiomenaa
