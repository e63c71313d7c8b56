/-
  Two programs that tell the same are as great as one another.
-/
import Derived.Test.YtcbhmpkginebaaaDoorMg14
import Derived.Test.YtcbhmpkginebaaaDoorMfShSame2
namespace Go.Proofs.YtcbhmpkginebaaaDoor
set_option linter.unusedVariables false
set_option linter.unusedSimpArgs false
open Go.RowKit

/-- Lists whose elements tell the same: each element of one has one of the other that tells the same. -/
theorem map_mem {α β : Type} {f : α → β} {l l' : List α} (h : l.map f = l'.map f) {x : α} (hx : x ∈ l) : ∃ y ∈ l', f y = f x := by
  have : f x ∈ l'.map f := h ▸ List.mem_map_of_mem hx
  obtain ⟨y, hy, e⟩ := List.mem_map.1 this
  exact ⟨y, hy, e⟩
theorem map_len {α β : Type} {f : α → β} {l l' : List α} (h : l.map f = l'.map f) : l.length = l'.length := by
  have := congrArg List.length h
  rwa [List.length_map, List.length_map] at this
theorem FuLim.same {f g : FuR} (h : f.data = g.data) (hl : FuLim g) : FuLim f := by
  have hb : f.blocks.map BlR.data = g.blocks.map BlR.data := by injection h
  refine ⟨by rw [map_len hb]; exact hl.blocks, fun b hbm => ?_, fun b hbm x hx => ?_, fun b hbm x hx => ?_⟩
  all_goals
    obtain ⟨b', hb', e⟩ := map_mem hb hbm
    have hi : b'.ins.map InR.data = b.ins.map InR.data := by injection e
  · rw [← map_len hi]; exact hl.ins b' hb'
  · obtain ⟨x', hx', e'⟩ := map_mem hi.symm hx
    have : x'.args = x.args := by injection e'
    rw [← this]; exact hl.args b' hb' x' hx'
  · obtain ⟨x', hx', e'⟩ := map_mem hi.symm hx
    have : x'.from_ = x.from_ := by injection e'
    rw [← this]; exact hl.froms b' hb' x' hx'
theorem PrLim.same {x p : PrR} (h : x.data = p.data) (hl : PrLim p) : PrLim x := by
  have ht : x.types.map TyR.data = p.types.map TyR.data := by injection h
  have hf : x.funs.map FuR.data = p.funs.map FuR.data := by injection h
  refine ⟨fun t htm => ?_, fun f hfm => ?_, by rw [map_len hf]; exact hl.many⟩
  · obtain ⟨t', ht', e⟩ := map_mem ht htm
    have : t'.parts = t.parts := by injection e
    rw [← this]; exact hl.parts t' ht'
  · obtain ⟨f', hf', e⟩ := map_mem hf hfm
    exact (hl.funs f' hf').same e.symm
theorem types_same {x p : PrR} (h : x.data = p.data) : x.types.length = p.types.length := map_len (f := TyR.data) (by injection h)
end Go.Proofs.YtcbhmpkginebaaaDoor
