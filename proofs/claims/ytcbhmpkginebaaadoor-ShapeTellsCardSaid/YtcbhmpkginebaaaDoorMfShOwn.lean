/-
  Instructions, blocks and functions that the call owns; what becomes of them when a block of another type is written.
-/
import Derived.Test.YtcbhmpkginebaaaDoorMg14
import Derived.Test.YtcbhmpkginebaaaDoorMfTypSame
import Derived.Test.YtcbhmpkginebaaaDoorMfTypTwin
namespace Go.Proofs.YtcbhmpkginebaaaDoor
set_option linter.unusedVariables false
set_option linter.unusedSimpArgs false
open Go.ChangeShapes Go.WideShapes Go.ChangeAt Go.RowKit

/-- Blocks of other types than t are as they were. -/
structure Spare (t : TypeId) (w w' : World) : Prop where
  size : w.heap.size ≤ w'.heap.size
  block : ∀ (k : Nat) (cs : Array Value) (e : TypeId) (fr : Nat × Nat), w.heap[k]? = some (Obj.cells cs e fr) → e ≠ t → w'.heap[k]? = some (Obj.cells cs e fr)
section
variable {t e : TypeId} {w w' w2 : World} {lo lo' size n : Nat} {v : Value} {xs : List Value}
theorem Spare.of (h : Below w.heap.size w w') : Spare t w w' := ⟨h.size, fun k cs e fr hk _ => (h.block k (Array.getElem?_eq_some_iff.1 hk).1).trans hk⟩
theorem Spare.trans (h : Spare t w w') (h' : Spare t w' w2) : Spare t w w2 := ⟨Nat.le_trans h.size h'.size, fun k cs e fr hk hne => h'.block k cs e fr (h.block k cs e fr hk hne) hne⟩
theorem Spare.set {g j : Nat} {cs : Array Value} (h : Blk w g t cs) (u : Value) : Spare t w (w.setCell ⟨g, j, none⟩ u) :=
  ⟨by rw [size_set]; exact Nat.le_refl _, fun k cs' e fr hk hne => (Below.heap_setCell w _ u k (fun hkg => by
    have h' : w.heap[g]? = some (.cells cs t (0, 0)) := h
    have hkg' : k = g := hkg
    rw [hkg', h'] at hk
    injection hk with hk
    injection hk with _ ht _
    exact hne ht.symm)).trans hk⟩
theorem Spare.grown (h : w.ownsRow lo t size v n xs) (hg : w.grownBy w' v.ownBlock) : Spare t w w' :=
  ⟨hg.size, fun k cs e fr hk hne => (hg.block k (Array.getElem?_eq_some_iff.1 hk).1 (fun hkv => by
    rcases h.2 with ⟨rfl, _⟩ | ⟨g', cap, cur, rfl, _, hh, _⟩
    · simp [Value.ownBlock] at hkv
    · have hkg : g' = k := by simpa [Value.ownBlock] using hkv.symm
      rw [← hkg, hh] at hk
      injection hk with hk
      injection hk with _ ht _
      exact hne ht.symm)).trans hk⟩
theorem ownsRow_spare (h : w.ownsRow lo e size v n xs) (hs : Spare t w w') (hne : e ≠ t) : w'.ownsRow lo e size v n xs := by
  refine ⟨h.1, ?_⟩
  rcases h.2 with h1 | ⟨g, cap, cur, h1, h2, h3, h4⟩
  · exact .inl h1
  · exact .inr ⟨g, cap, cur, h1, h2, hs.block _ _ _ _ h3 hne, h4⟩
theorem OwnInts.spare {xs : List Int} (h : OwnInts w lo v xs) (hs : Spare t w w') (hne : 3 ≠ t) : OwnInts w' lo v xs := ownsRow_spare h hs hne
theorem OwnTys.spare {rows : List TyR} (h : OwnTys w lo v rows) (hs : Spare t w w') (h1 : 3 ≠ t) (h2 : 78 ≠ t) : OwnTys w' lo v rows := ⟨ownsRow_spare h.row hs h2, fun r hr => ⟨(h.inner r hr).1.spare hs h1, (h.inner r hr).2⟩⟩
end
def InR.cells7 (r : InR) : List Value := [.int .u8 r.op, .int .i64 r.ty, .int .i64 r.a, .int .i64 r.b, .int .i64 r.n, .slice r.aa r.args.length r.ac, .slice r.fa r.from_.length r.fc]
structure InR.Own (w : World) (lo : Nat) (r : InR) : Prop where
  op : r.op ≤ 255
  args : OwnInts w lo (.slice r.aa r.args.length r.ac) r.args
  from_ : OwnInts w lo (.slice r.fa r.from_.length r.fc) r.from_
structure OwnIns (w : World) (lo : Nat) (v : Value) (rows : List InR) : Prop where
  row : w.ownsRow lo 24 7 v rows.length (rows.flatMap InR.cells7)
  inner : ∀ r ∈ rows, r.Own w lo
def BlR.cells5 (r : BlR) : List Value := [.slice r.ia r.ins.length r.ic, .int .u8 r.kind, .int .i64 r.a, .int .i64 r.to, .int .i64 r.els]
structure BlR.Own (w : World) (lo : Nat) (r : BlR) : Prop where
  kind : r.kind ≤ 255
  ins : OwnIns w lo (.slice r.ia r.ins.length r.ic) r.ins
structure OwnBls (w : World) (lo : Nat) (v : Value) (rows : List BlR) : Prop where
  row : w.ownsRow lo 58 5 v rows.length (rows.flatMap BlR.cells5)
  inner : ∀ r ∈ rows, r.Own w lo
def FuR.cells2 (r : FuR) : List Value := [.int .i64 r.sig, .slice r.ba r.blocks.length r.bc]
def FuR.Own (w : World) (lo : Nat) (r : FuR) : Prop := OwnBls w lo (.slice r.ba r.blocks.length r.bc) r.blocks
structure OwnFus (w : World) (lo : Nat) (v : Value) (rows : List FuR) : Prop where
  row : w.ownsRow lo 55 2 v rows.length (rows.flatMap FuR.cells2)
  inner : ∀ r ∈ rows, r.Own w lo
/-- A slice's memory, if it has any, is from a block on. -/
def From (lo : Nat) (A : Option Addr) (n : Nat) : Prop := 0 < n → ∃ b off, A = some ⟨b, off, none⟩ ∧ lo ≤ b
theorem CellsAt.from_ {w : World} {lo B size n : Nat} {A : Option Addr} {f : Nat → Nat → Value} (h : CellsAt w lo B A size n f) : From lo A n := fun hn => by
  obtain ⟨b, off, rfl, h1, _, _⟩ := h hn
  exact ⟨b, off, rfl, h1⟩
/-- All memory of an instruction, of a block, of a function, of a program is from a block on. -/
structure InR.From (lo : Nat) (r : InR) : Prop where
  args : Go.Proofs.YtcbhmpkginebaaaDoor.From lo r.aa r.args.length
  from_ : Go.Proofs.YtcbhmpkginebaaaDoor.From lo r.fa r.from_.length
structure BlR.From (lo : Nat) (r : BlR) : Prop where
  head : Go.Proofs.YtcbhmpkginebaaaDoor.From lo r.ia r.ins.length
  ins : ∀ x ∈ r.ins, x.From lo
structure FuR.From (lo : Nat) (r : FuR) : Prop where
  head : Go.Proofs.YtcbhmpkginebaaaDoor.From lo r.ba r.blocks.length
  blocks : ∀ b ∈ r.blocks, b.From lo
structure PrR.From (lo : Nat) (r : PrR) : Prop where
  types : Go.Proofs.YtcbhmpkginebaaaDoor.From lo r.ta r.types.length
  funs : Go.Proofs.YtcbhmpkginebaaaDoor.From lo r.fa r.funs.length
  inner : ∀ f ∈ r.funs, f.From lo
section
variable {t : TypeId} {w w' : World} {lo lo' : Nat} {v : Value}
theorem InR.Own.spare {r : InR} (h : r.Own w lo) (hs : Spare t w w') (h1 : 3 ≠ t) : r.Own w' lo := ⟨h.op, h.args.spare hs h1, h.from_.spare hs h1⟩
theorem OwnIns.spare {rows : List InR} (h : OwnIns w lo v rows) (hs : Spare t w w') (h1 : 3 ≠ t) (h2 : 24 ≠ t) : OwnIns w' lo v rows := ⟨ownsRow_spare h.row hs h2, fun r hr => (h.inner r hr).spare hs h1⟩
theorem BlR.Own.spare {r : BlR} (h : r.Own w lo) (hs : Spare t w w') (h1 : 3 ≠ t) (h2 : 24 ≠ t) : r.Own w' lo := ⟨h.kind, h.ins.spare hs h1 h2⟩
theorem OwnBls.spare {rows : List BlR} (h : OwnBls w lo v rows) (hs : Spare t w w') (h1 : 3 ≠ t) (h2 : 24 ≠ t) (h3 : 58 ≠ t) : OwnBls w' lo v rows := ⟨ownsRow_spare h.row hs h3, fun r hr => (h.inner r hr).spare hs h1 h2⟩
theorem OwnFus.spare {rows : List FuR} (h : OwnFus w lo v rows) (hs : Spare t w w') (h1 : 3 ≠ t) (h2 : 24 ≠ t) (h3 : 58 ≠ t) (h4 : 55 ≠ t) : OwnFus w' lo v rows := ⟨ownsRow_spare h.row hs h4, fun r hr => OwnBls.spare (h.inner r hr) hs h1 h2 h3⟩
theorem InR.Own.keep {r : InR} (h : r.Own w lo) (hb : Below w.heap.size w w') : r.Own w' lo := ⟨h.op, h.args.keep hb, h.from_.keep hb⟩
theorem OwnIns.keep {rows : List InR} (h : OwnIns w lo v rows) (hb : Below w.heap.size w w') : OwnIns w' lo v rows := ⟨ownsRow_keep h.row hb, fun r hr => (h.inner r hr).keep hb⟩
theorem OwnBls.keep {rows : List BlR} (h : OwnBls w lo v rows) (hb : Below w.heap.size w w') : OwnBls w' lo v rows := ⟨ownsRow_keep h.row hb, fun r hr => ⟨(h.inner r hr).kind, (h.inner r hr).ins.keep hb⟩⟩
theorem OwnFus.keep {rows : List FuR} (h : OwnFus w lo v rows) (hb : Below w.heap.size w w') : OwnFus w' lo v rows := ⟨ownsRow_keep h.row hb, fun r hr => OwnBls.keep (h.inner r hr) hb⟩
theorem InR.Own.more {r : InR} (h : r.Own w lo) (hl : lo' ≤ lo) : r.Own w lo' := ⟨h.op, h.args.more hl, h.from_.more hl⟩
theorem OwnIns.more {rows : List InR} (h : OwnIns w lo v rows) (hl : lo' ≤ lo) : OwnIns w lo' v rows := ⟨ownsRow_more h.row hl, fun r hr => (h.inner r hr).more hl⟩
theorem OwnBls.more {rows : List BlR} (h : OwnBls w lo v rows) (hl : lo' ≤ lo) : OwnBls w lo' v rows := ⟨ownsRow_more h.row hl, fun r hr => ⟨(h.inner r hr).kind, (h.inner r hr).ins.more hl⟩⟩
theorem OwnFus.more {rows : List FuR} (h : OwnFus w lo v rows) (hl : lo' ≤ lo) : OwnFus w lo' v rows := ⟨ownsRow_more h.row hl, fun r hr => OwnBls.more (h.inner r hr) hl⟩
theorem OwnIns.nil (w : World) (lo : Nat) : OwnIns w lo (.slice none 0 0) [] := ⟨World.ownsRow_nil _ _ _ _, fun r hr => by cases hr⟩
theorem OwnBls.nil (w : World) (lo : Nat) : OwnBls w lo (.slice none 0 0) [] := ⟨World.ownsRow_nil _ _ _ _, fun r hr => by cases hr⟩
theorem OwnFus.nil (w : World) (lo : Nat) : OwnFus w lo (.slice none 0 0) [] := ⟨World.ownsRow_nil _ _ _ _, fun r hr => by cases hr⟩
theorem OwnIns.push {rows : List InR} {r : InR} (h : OwnIns w lo v rows) {v' : Value} (hr : w'.ownsRow lo 24 7 v' (rows.length + 1) (rows.flatMap InR.cells7 ++ r.cells7)) (hg : w.grownBy w' v.ownBlock) (hi : r.Own w lo) : OwnIns w' lo v' (rows ++ [r]) := by
  have hs := Spare.grown h.row hg
  refine ⟨by rw [List.length_append, List.flatMap_append]; simpa using hr, fun q hq => ?_⟩
  rcases List.mem_append.1 hq with hq | hq
  · exact (h.inner q hq).spare hs (by decide)
  · obtain rfl := List.mem_singleton.1 hq
    exact hi.spare hs (by decide)
theorem OwnBls.push {rows : List BlR} {r : BlR} (h : OwnBls w lo v rows) {v' : Value} (hr : w'.ownsRow lo 58 5 v' (rows.length + 1) (rows.flatMap BlR.cells5 ++ r.cells5)) (hg : w.grownBy w' v.ownBlock) (hi : r.Own w lo) : OwnBls w' lo v' (rows ++ [r]) := by
  have hs := Spare.grown h.row hg
  refine ⟨by rw [List.length_append, List.flatMap_append]; simpa using hr, fun q hq => ?_⟩
  rcases List.mem_append.1 hq with hq | hq
  · exact (h.inner q hq).spare hs (by decide) (by decide)
  · obtain rfl := List.mem_singleton.1 hq
    exact hi.spare hs (by decide) (by decide)
theorem OwnFus.push {rows : List FuR} {r : FuR} (h : OwnFus w lo v rows) {v' : Value} (hr : w'.ownsRow lo 55 2 v' (rows.length + 1) (rows.flatMap FuR.cells2 ++ r.cells2)) (hg : w.grownBy w' v.ownBlock) (hi : r.Own w lo) : OwnFus w' lo v' (rows ++ [r]) := by
  have hs := Spare.grown h.row hg
  refine ⟨by rw [List.length_append, List.flatMap_append]; simpa using hr, fun q hq => ?_⟩
  rcases List.mem_append.1 hq with hq | hq
  · exact OwnBls.spare (h.inner q hq) hs (by decide) (by decide) (by decide)
  · obtain rfl := List.mem_singleton.1 hq
    exact OwnBls.spare hi hs (by decide) (by decide) (by decide)
theorem OwnIns.form {rows : List InR} (h : OwnIns w lo v rows) : ∃ A c, v = .slice A rows.length c ∧ InsAt w A c rows ∧ From lo A rows.length ∧ ∀ x ∈ rows, x.From lo := by
  obtain ⟨A, c, hv, hle, hcap, hnil, hc⟩ := ownsRow_form h.row (by omega)
  refine ⟨A, c, hv, ⟨⟨hle, hcap, hnil⟩, (hc.more (Nat.zero_le _) (Nat.le_refl _)).congr fun i hi j hj => ?_, fun r hr => ?_⟩, hc.from_, fun r hr => ?_⟩
  · rw [flat_getD InR.cells7 7 (fun _ => rfl) default rows i j hi hj]
    match j, hj with
    | 0, _ => rfl
    | 1, _ => rfl
    | 2, _ => rfl
    | 3, _ => rfl
    | 4, _ => rfl
    | 5, _ => rfl
    | 6, _ => rfl
  · obtain ⟨h0, h1, h2⟩ := h.inner r hr
    obtain ⟨h3, h4⟩ := own_hdr h1
    obtain ⟨h5, h6⟩ := own_hdr h2
    exact ⟨h0, h3, h4.more (Nat.zero_le _) (Nat.le_refl _), h5, h6.more (Nat.zero_le _) (Nat.le_refl _)⟩
  · obtain ⟨h0, h1, h2⟩ := h.inner r hr
    obtain ⟨h3, h4⟩ := own_hdr h1
    obtain ⟨h5, h6⟩ := own_hdr h2
    exact ⟨CellsAt.from_ h4, CellsAt.from_ h6⟩
theorem OwnBls.form {rows : List BlR} (h : OwnBls w lo v rows) : ∃ A c, v = .slice A rows.length c ∧ BlksAt w A c rows ∧ From lo A rows.length ∧ ∀ x ∈ rows, x.From lo := by
  obtain ⟨A, c, hv, hle, hcap, hnil, hc⟩ := ownsRow_form h.row (by omega)
  refine ⟨A, c, hv, ⟨⟨hle, hcap, hnil⟩, (hc.more (Nat.zero_le _) (Nat.le_refl _)).congr fun i hi j hj => ?_, fun r hr => ?_⟩, hc.from_, fun r hr => ?_⟩
  · rw [flat_getD BlR.cells5 5 (fun _ => rfl) default rows i j hi hj]
    match j, hj with
    | 0, _ => rfl
    | 1, _ => rfl
    | 2, _ => rfl
    | 3, _ => rfl
    | 4, _ => rfl
  · obtain ⟨h0, h1⟩ := h.inner r hr
    obtain ⟨A', c', e, h3, _, _⟩ := h1.form
    injection e with e1 e2 e3
    subst e1 e3
    exact ⟨h0, h3⟩
  · obtain ⟨h0, h1⟩ := h.inner r hr
    obtain ⟨A', c', e, _, h4, h5⟩ := h1.form
    injection e with e1 e2 e3
    subst e1 e3
    exact ⟨h4, h5⟩
theorem OwnFus.form {rows : List FuR} (h : OwnFus w lo v rows) : ∃ A c, v = .slice A rows.length c ∧ FusAt w A c rows ∧ From lo A rows.length ∧ ∀ x ∈ rows, x.From lo := by
  obtain ⟨A, c, hv, hle, hcap, hnil, hc⟩ := ownsRow_form h.row (by omega)
  refine ⟨A, c, hv, ⟨⟨hle, hcap, hnil⟩, (hc.more (Nat.zero_le _) (Nat.le_refl _)).congr fun i hi j hj => ?_, fun r hr => ?_⟩, hc.from_, fun r hr => ?_⟩
  · rw [flat_getD FuR.cells2 2 (fun _ => rfl) default rows i j hi hj]
    match j, hj with
    | 0, _ => rfl
    | 1, _ => rfl
  · obtain ⟨A', c', e, h3, _, _⟩ := OwnBls.form (h.inner r hr)
    injection e with e1 e2 e3
    subst e1 e3
    exact ⟨h3⟩
  · obtain ⟨A', c', e, _, h4, h5⟩ := OwnBls.form (h.inner r hr)
    injection e with e1 e2 e3
    subst e1 e3
    exact ⟨h4, h5⟩
end
/-- A program of the call's own. -/
structure OwnPr (w : World) (lo : Nat) (p : PrR) : Prop where
  types : OwnTys w lo (.slice p.ta p.types.length p.tc) p.types
  funs : OwnFus w lo (.slice p.fa p.funs.length p.fc) p.funs
theorem OwnPr.prog {w : World} {lo : Nat} {p : PrR} (h : OwnPr w lo p) : ProgIn w p ∧ p.From lo := by
  obtain ⟨A, c, e, h1, h2⟩ := h.types.form
  obtain ⟨A', c', e', h3, h4, h5⟩ := h.funs.form
  injection e with e1 e2 e3
  injection e' with e1' e2' e3'
  subst e1 e3 e1' e3'
  exact ⟨⟨⟨h1, h2.cells.more (Nat.zero_le _) (Nat.le_refl _), fun r hr => (h2.ok r hr).more (Nat.zero_le _) (Nat.le_refl _)⟩, h3⟩, h2.cells.from_, h4, h5⟩
end Go.Proofs.YtcbhmpkginebaaaDoor
